/- Contracts of bits.Open, Eye.Left and Eye.Get. -/
import Derived.Test.YtempedbpieaggaaDoorProg
import Derived.Test.YtempedbpieaggaaDoorKept
import Derived.Test.YtempedbpieaggaaDoorPackPlain
import Derived.Test.YtempedbpieaggaaDoorZigPlain
import Derived.WalkKit
import Derived.WalkLawsBesides
import Derived.LoopTactic
import Derived.RegionTactic
import Derived.BigRegion
import Derived.Deep.QuietTactic
import Derived.BigQuiet
import Derived.Outline
import Derived.Lib.Hide
namespace Go.Proofs.YtempedbpieaggaaDoor
open Go Go.RowKit
set_option linter.unusedVariables false

/-- Bit i of bytes. -/
def bitOf (l : List Int) (i : Nat) : Int := l.getD (i / 8) 0 / 2 ^ (7 - i % 8) % 2
/-- The number of so many bits from a place on. -/
def numAt (l : List Int) (n : Nat) : Nat → Int
  | 0 => 0
  | k + 1 => 2 * numAt l n k + bitOf l (n + k)
theorem bitOf_bd (l : List Int) (i : Nat) : bitOf l i = 0 ∨ bitOf l i = 1 := by
  unfold bitOf; generalize l.getD (i / 8) 0 / 2 ^ (7 - i % 8) = u; omega
theorem numAt_bd (l : List Int) (n k : Nat) : 0 ≤ numAt l n k ∧ numAt l n k < 2 ^ k := by
  induction k with
  | zero => simp [numAt]
  | succ k ih =>
    have := bitOf_bd l (n + k)
    rw [numAt, Int.pow_succ]
    omega
theorem pow60 (k : Nat) (h : k ≤ 60) : (2 : Int) ^ k ≤ 1152921504606846976 := by
  have h2 : 2 ^ k ≤ 2 ^ 60 := Nat.pow_le_pow_right (by decide) h
  have e : ((2 ^ k : Nat) : Int) = (2 : Int) ^ k := by simp
  omega
/-- The number with one bit more, as Get makes it. -/
theorem eye_or (S X : Int) (r : Nat) (h1 : 0 ≤ S) (h2 : S < 4611686018427387904) (h3 : 0 ≤ X) (h4 : X ≤ 255) :
    bits .or .i64 (S * 2) (bits .and .i64 (wrap64 (X / 2 ^ r)) 1) = 2 * S + X / 2 ^ r % 2 := by
  have hd := div_pow_bd X r (by omega) (by omega)
  have hd0 : 0 ≤ X / 2 ^ r := Int.ediv_nonneg h3 (Int.le_of_lt (Int.pow_pos (by decide)))
  rw [IntWalk.wrap64_in _ (by omega), i64_and_one _ hd.1 hd.2]
  generalize X / 2 ^ r = Y at *
  obtain ⟨s, rfl⟩ := Int.eq_ofNat_of_zero_le h1
  obtain ⟨y, hy⟩ := Int.eq_ofNat_of_zero_le (show 0 ≤ Y % 2 by omega)
  rw [hy, show (s : Int) * 2 = ((s * 2 : Nat) : Int) by omega, i64_or_nat _ _ (by omega) (by omega), nat_join 1 _ _ (by omega) (by omega)]
  omega
/-- An eye on the bytes l that has read n bits: block g. -/
def EyeAt (w : World) (g : Nat) (a : Option Addr) (cap : Nat) (l : List Int) (n : Nat) : Prop :=
  Blk w g 58 #[.slice a l.length cap, .int .i64 n] ∧ Reads .u8 w g a l ∧ l.length ≤ 140737488351232

theorem eyeLeft_any (g : Nat) (a : Option Addr) (cap : Nat) (l : List Int) (n : Nat) (w : World) (h : EyeAt w g a cap l n) (hn : n ≤ 8 * l.length) :
    Calls Tryd.prog 32 #[.pointer (some ⟨g, 0, none⟩)] w fun e w' => e = .returned (.int .i64 (8 * (l.length : Int) - n)) ∧ ∃ d, w' = w.drewN d := by
  obtain ⟨hb, hr, hl⟩ := h
  have hc0 := hb.two0
  have hc1 := hb.two1
  have hs : IntKind.i64.wrap (8 * (l.length : Int)) = 8 * (l.length : Int) := IntWalk.i64_in _ (by omega)
  have hs2 : IntKind.i64.wrap (8 * (l.length : Int) - n) = 8 * (l.length : Int) - n := IntWalk.i64_in _ (by omega)
  go_enter Tryd.func32, Tryd.ntmps32
  go_wp2_with fail
  go_quiet (fail)
  go_wp2_with fail
  go_ret
  exact ⟨ret1_of (by first | rfl | exact hs2), _, rfl⟩
theorem eyeGet_short (g : Nat) (a : Option Addr) (cap : Nat) (l : List Int) (n : Nat) (wd : Int) (w : World) (h : EyeAt w g a cap l n) (hn : n ≤ 8 * l.length) (hw : 8 * (l.length : Int) - n < wd) :
    Calls Tryd.prog 28 #[.pointer (some ⟨g, 0, none⟩), .int .i64 wd] w fun e w' => e = .returned (.tuple #[.int .i64 0, .bool false]) ∧ ∃ d, w' = w.drewN d := by
  go_enter Tryd.func28, Tryd.ntmps28
  go_wp2_with fail
  refine (eyeLeft_any g a cap l n _ h hn).mono ?_
  rintro e w1 ⟨rfl, d, rfl⟩
  go_wp2_with fail
  go_ret2
  exact ⟨rfl, _, rfl⟩
set_option maxHeartbeats 1000000 in
theorem eyeGet_any (g : Nat) (a : Option Addr) (cap : Nat) (l : List Int) (n wd : Nat) (w : World) (h : EyeAt w g a cap l n) (hn : n ≤ 8 * l.length) (hw : n + wd ≤ 8 * l.length) (hw60 : wd ≤ 60) :
    Calls Tryd.prog 28 #[.pointer (some ⟨g, 0, none⟩), .int .i64 wd] w fun e w' => e = .returned (.tuple #[.int .i64 (numAt l n wd), .bool true]) ∧ EyeAt w' g a cap l (n + wd) ∧ Kept g [58] w w' := by
  have hl47 := h.2.2
  go_enter Tryd.func28, Tryd.ntmps28
  go_wp2_with fail
  refine (eyeLeft_any g a cap l n _ h hn).mono ?_
  rintro e w1 ⟨rfl, d, rfl⟩
  go_wp2_with fail
  go_loopw [6, 12] (fun v i wr => ∃ k : Nat, k ≤ wd ∧ i = .int .i64 k ∧ v = .int .i64 (numAt l n k) ∧ EyeAt wr g a cap l (n + k) ∧ Kept g [58] w wr) (fun _ i _ => wd - (intOf i).toNat)
  case atStart => exact ⟨0, Nat.zero_le _, rfl, rfl, h, (Kept.refl _ _ _).drewN _⟩
  case round =>
    obtain ⟨k, hk, rfl, rfl, heye, hkept⟩ := hrel
    by_cases hlt : k < wd
    · obtain ⟨hblk, hr, _⟩ := heye
      obtain ⟨b, off, rfl, hb, hc⟩ := hr.at_ (by omega)
      have hc0 := hblk.two0
      have hc1 := hblk.two1
      have hf1 := hblk.frozen 1
      have hc2 := hc ((n + k) / 8) (by omega)
      have hxb := hr.u8 ((n + k) / 8)
      have hnb := numAt_bd l n k
      have hp := pow60 k (by omega)
      have hnum : Hid (numAt l n (k + 1) = 2 * numAt l n k + bitOf l (n + k)) := rfl
      have hbit : Hid (bitOf l (n + k) = l.getD ((n + k) / 8) 0 / 2 ^ (7 - (n + k) % 8) % 2) := rfl
      have hne1 : b ≠ g := by omega
      have hne2 : g ≠ b := by omega
      have HB := Lib.hid hblk
      have HR := Lib.hid hr
      have HK := Lib.hid hkept
      clear hc hblk hr hkept
      generalize numAt l n k = S at *
      generalize l.getD ((n + k) / 8) 0 = X at *
      obtain ⟨q, hq⟩ : ∃ q, q = n + k := ⟨_, rfl⟩
      rw [← hq] at hc1 hc2 hbit HB
      have Hq := Lib.hid hq
      have hqb : q < 8 * l.length := by omega
      clear hq
      have hqi : (q : Int) / 8 < (l.length : Int) := by omega
      go_wp2_with fail
      go_quiet (fail)
      go_wp2_with fail
      have hq2 := Hq.out
      have hval := eye_or S X (7 - q % 8) hnb.1 (by omega) hxb.1 hxb.2
      refine ⟨⟨k + 1, by omega, by go_num, by rw [hnum.out, ← hq2, hbit.out, hval], ⟨?_, ?_, hl47⟩, ?_⟩, by simp [intOf]; omega⟩
      · rw [show ((n + (k + 1) : Nat) : Int) = (q : Int) + 1 by omega]
        exact (HB.out.drewN _).set_ 1 _
      · exact HR.out.below ((below_drewN (Below.refl g wr) _).setCell (p := ⟨g, 1, none⟩) (Nat.le_refl g) _)
      · exact (HK.out.drewN _).setCell (p := ⟨g, 1, none⟩) (HB.out.drewN _) (Nat.le_refl _) (by simp) _
    · have hke : k = wd := by omega
      subst hke
      have HE := Lib.hid heye
      have HK := Lib.hid hkept
      clear heye hkept
      go_wp2_with fail
      go_ret2
      exact ⟨rfl, HE.out, HK.out⟩
theorem eyeOpen_any (a : Option Addr) (cap B : Nat) (l : List Int) (w : World) (hB : B ≤ w.heap.size) (hr : Reads .u8 w B a l) (hl : l.length ≤ 140737488351232) :
    Calls Tryd.prog 23 #[.slice a l.length cap] w fun e w' => e = .returned (.pointer (some ⟨w.heap.size, 0, none⟩)) ∧ EyeAt w' w.heap.size a cap l 0 ∧ w' = w.alloc (.cells #[.slice a l.length cap, .int .i64 0] 58) := by
  go_enter Tryd.func23, Tryd.ntmps23
  go_wp2_with fail
  go_ret
  exact ⟨rfl, ⟨Blk.new _ _ _, (hr.below ((Below.refl _ _).alloc hB _)).more hB, hl⟩, rfl⟩
end Go.Proofs.YtempedbpieaggaaDoor
