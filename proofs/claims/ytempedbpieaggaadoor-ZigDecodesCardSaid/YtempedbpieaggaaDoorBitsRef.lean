/- Contracts of the document's bitList, byteList and BitsWritten. -/
import Derived.Test.YtempedbpieaggaaDoorInfo
import Derived.Test.YtempedbpieaggaaDoorKept
import Derived.Test.YtempedbpieaggaaDoorAppend
import Derived.Test.YtempedbpieaggaaDoorPackPlain
import Derived.Test.YtempedbpieaggaaDoorRow2
import Derived.WalkKit
import Derived.WalkLawsBesides
import Derived.LoopTactic
import Derived.RegionTactic
import Derived.BigRegion
import Derived.Outline
import Derived.Deep.DeepCutAuto
import Derived.Lib.Hide
import Derived.Deep.RegionHeld3
import Derived.Deep.DrawnRows
namespace Go.Proofs.YtempedbpieaggaaDoor
open Go Go.RowKit
set_option linter.unusedVariables false
attribute [local go_sem ↓] Go.wp_at_zero Go.wp_at_succ

/-- The bits of fields. -/
def flat (ps : List (Int × Int)) : List Int := ps.flatMap fun p => bitsOf p.1.toNat p.2
theorem flat_take (ps : List (Int × Int)) (k : Nat) (h : k < ps.length) : flat (ps.take (k + 1)) = flat (ps.take k) ++ bitsOf (ps.getD k (0, 0)).1.toNat (ps.getD k (0, 0)).2 := by
  have e : ps.getD k (0, 0) = ps[k] := by simp [List.getD, List.getElem?_eq_getElem h]
  rw [List.take_succ_eq_append_getElem h, e, flat, flat, List.flatMap_append]
  simp
theorem flat_bits (ps : List (Int × Int)) : AllBits (flat ps) := by
  intro x hx
  obtain ⟨p, _, hp⟩ := List.mem_flatMap.1 hx
  exact bitsOf_bits _ _ x hp
theorem pow_bd (m : Nat) (h : m < 60) : (1 : Int) ≤ 2 ^ m ∧ (2 : Int) ^ m ≤ 576460752303423488 := by
  have h1 : 1 ≤ 2 ^ m := Nat.one_le_two_pow
  have h2 : 2 ^ m ≤ 2 ^ 59 := Nat.pow_le_pow_right (by decide) (by omega)
  have e : ((2 ^ m : Nat) : Int) = (2 : Int) ^ m := by simp
  omega
/-- Fields that may be. -/
def okFields (ps : List (Int × Int)) : Prop := ∀ p ∈ ps, 0 ≤ p.1 ∧ p.1 ≤ 60 ∧ 0 ≤ p.2
set_option maxHeartbeats 1000000 in
theorem bitList_any (a : Option Addr) (cap : Nat) (ps : List (Int × Int)) (w : World) (hl : ps.length ≤ 400) (hok : okFields ps) (hr : Reads2 w w.heap.size a ps) :
    Calls Tryd.prog 17 #[.slice a ps.length cap] w fun e w' => ∃ v, e = .returned v ∧ OwnI .i64 3 w' w.heap.size v (flat ps) ∧ Below w.heap.size w w' := by
  obtain ⟨i0, hi, hz0, hz1, hz2⟩ := info_parts infoI64
  go_enter Tryd.func17, Tryd.ntmps17
  go_wp2_with fail
  go_loopw [3, 9] (fun v i wr => ∃ (k : Nat), k ≤ ps.length ∧ i = .int .i64 k ∧ (flat (ps.take k)).length ≤ 60 * k ∧ OwnI .i64 3 wr w.heap.size v (flat (ps.take k)) ∧ Below w.heap.size w wr) (fun _ i _ => ps.length - (intOf i).toNat)
  case atStart => exact ⟨0, Nat.zero_le _, rfl, by simp [flat], OwnI.nil _ _ _ _, Below.refl _ _⟩
  case round =>
    obtain ⟨k, hk, rfl, hfl, hown, hbel⟩ := hrel
    have HO := Lib.hid hown
    have HB := Lib.hid hbel
    have hsz := hbel.size
    clear hown hbel
    by_cases hlt : k < ps.length
    · obtain ⟨b, off, rfl, hb, hc⟩ := (hr.below HB.out).at_ (by omega)
      have hft := flat_take ps k hlt
      have hbd := hr.bd k
      have hcs := hc k hlt
      obtain ⟨hc0, hc1⟩ := hcs
      have hokk : 0 ≤ (ps.getD k (0, 0)).1 ∧ (ps.getD k (0, 0)).1 ≤ 60 ∧ 0 ≤ (ps.getD k (0, 0)).2 := by
        have e : ps.getD k (0, 0) = ps[k] := by simp [List.getD, List.getElem?_eq_getElem hlt]
        rw [e]; exact hok _ (List.getElem_mem hlt)
      clear hc
      generalize (ps.getD k (0, 0)).1 = W at *
      generalize (ps.getD k (0, 0)).2 = V at *
      obtain ⟨hw0, hw1, hv0⟩ := hokk
      have HF := Lib.hid hft
      clear hft
      generalize hX : flat (ps.take k) = X at *
      clear hX
      obtain ⟨wo, rfl⟩ : ∃ wo : World, wo = wr := ⟨_, rfl⟩
      go_wp2_with fail
      go_loopw [3, 6] (fun v i wx => ∃ q : Int, 1 ≤ q ∧ q ≤ W + 1 ∧ i = .int .i64 q ∧ OwnI .i64 3 wx w.heap.size v (X ++ (bitsOf W.toNat V).take (q - 1).toNat) ∧ Below w.heap.size w wx ∧ wo.heap.size < wx.heap.size ∧ Blk wx wo.heap.size 56 #[.int .i64 W, .int .i64 V]) (fun _ i _ => (W + 1 - intOf i).toNat)
      case atStart => exact ⟨1, by omega, by omega, rfl, by simpa using HO.out.below ((Below.refl _ _).alloc (Nat.le_refl _) _), HB.out.alloc hsz _, by simp, Blk.new _ _ _⟩
      case round =>
        obtain ⟨q, hq1, hq2, rfl, hown, hbel, hszx, hblk⟩ := hrel
        have hf0 := hblk.two0
        have hf1 := hblk.two1
        have HOx := Lib.hid hown
        have HBx := Lib.hid hbel
        have HK := Lib.hid hblk
        clear hown hbel hblk
        by_cases hqw : q ≤ W
        · obtain ⟨n, rfl⟩ := Int.eq_ofNat_of_zero_le hw0
          obtain ⟨p, rfl⟩ := Int.eq_ofNat_of_zero_le (show 0 ≤ q by omega)
          obtain ⟨m, hm⟩ : ∃ m : Nat, n = p + m := ⟨n - p, by omega⟩
          have hs : IntKind.i64.wrap ((n : Int) - p) = (m : Int) := by rw [IntWalk.i64_in _ (by omega)]; omega
          have hm59 : m < 60 := by omega
          obtain ⟨D, hD⟩ : ∃ D : Int, D = 2 ^ m := ⟨_, rfl⟩
          have hD1 : 1 ≤ D ∧ D ≤ 576460752303423488 := by rw [hD]; exact pow_bd m hm59
          have hw2 : IntKind.i64.wrap (2 ^ m) = D := by rw [← hD]; exact IntWalk.i64_in _ (by omega)
          have hD0 : ¬ D = 0 := by omega
          obtain ⟨Y, hY⟩ : ∃ Y : Int, Y = V / D := ⟨_, rfl⟩
          have hYb : 0 ≤ Y ∧ Y ≤ 9223372036854775807 := by rw [hY]; exact ⟨Int.ediv_nonneg hv0 (by omega), Int.le_trans (Int.ediv_le_self _ hv0) (by omega)⟩
          have hq2' : IntKind.i64.wrap (V.tdiv D) = Y := by rw [Int.tdiv_eq_ediv_of_nonneg hv0, ← hY]; exact IntWalk.i64_in _ (by omega)
          have hq3 : Y.tmod 2 = Y % 2 := Int.tmod_eq_emod_of_nonneg hYb.1
          have hne3 := own_blk_ne HOx.out.1 HK.out (by decide)
          have hXl : (X ++ (bitsOf (n : Int).toNat V).take ((p : Int) - 1).toNat).length ≤ 24100 := by rw [List.length_append, List.length_take, bitsOf_length]; omega
          have HD := Lib.hid hD
          have HY := Lib.hid hY
          have Hm := Lib.hid hm
          clear hm hD hY
          go_wp2_with fail
          go_region_held3 (fun w' => w'.cell? ⟨wo.heap.size, 0, none⟩ = some (.int .i64 n) ∧ w'.cell? ⟨wo.heap.size, 1, none⟩ = some (.int .i64 V)) (go_keep) ((refine step_append_ints _ (by rfl) (.tmp 19) (.tmp 29) 26 (by rfl) .i64 w.heap.size 3 i0 8 Tryd.underlying26 hi hz0 hz1 hz2 u3 _ (by rfl) (by exact HOx.out.below ((Below.refl _ _).alloc (Nat.le_refl _) _).drew) (wr.heap.size + 1) (some ⟨wr.heap.size, 0, none⟩) 1 1 [Y % 2] (by rfl) rfl (by exact reads_one .i64 3 (Y % 2) (wf_i64 (by omega) (by omega)) wr) (by simp only [List.length_cons, List.length_nil]; unfold maxLen; omega) (by simp only [List.length_cons, List.length_nil]; omega) (by simp; omega) ?_; intro v' w1 ho1 hm1; have hk1 : Blk w1 wo.heap.size 56 #[.int .i64 n, .int .i64 V] := (HK.out.alloc _).drew.grown hm1.1 (Ne.symm hne3); have e0 := hk1.two0; have e1 := hk1.two1))
          go_wp2_with fail
          have hT : (bitsOf (n : Int).toNat V).take ((p : Int) + 1 - 1).toNat = (bitsOf (n : Int).toNat V).take ((p : Int) - 1).toNat ++ [Y % 2] := by
            have h1 := Hm.out
            rw [show ((p : Int) + 1 - 1).toNat = ((p : Int) - 1).toNat + 1 by omega, bitsOf_take _ _ V (by omega), HY.out, HD.out, show (n : Int).toNat - 1 - ((p : Int) - 1).toNat = m by omega]
          have hsx : w.heap.size ≤ wr.heap.size := by omega
          have hgs := hm1.1.size
          simp at hgs
          refine ⟨⟨(p : Int) + 1, by omega, by omega, rfl, by rw [hT, ← List.append_assoc]; exact ho1, (HBx.out.alloc hsx _).drew.trans (hm1.below (by simp; omega) (fun g hg => (HOx.out.lt g hg).1)), by omega, hk1⟩, by simp [intOf]; omega⟩
        · have hqe : q = W + 1 := by omega
          subst hqe
          go_wp2_with fail
          have hlw := bitsOf_length W.toNat V
          have hown2 := HOx.out
          rw [show (W + 1 - 1).toNat = W.toNat by omega, List.take_of_length_le (by omega)] at hown2
          refine ⟨⟨k + 1, by omega, by go_num, by rw [HF.out, List.length_append, hlw]; omega, by rw [HF.out]; exact hown2, HBx.out⟩, by simp [intOf]; omega⟩
    · have hke : k = ps.length := by omega
      subst hke
      rw [List.take_length] at HO
      go_wp2_with fail
      go_ret
      exact ⟨_, rfl, HO.out, HB.out⟩
end Go.Proofs.YtempedbpieaggaaDoor
