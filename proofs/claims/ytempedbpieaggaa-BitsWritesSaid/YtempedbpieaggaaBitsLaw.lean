/- The contract of the document's BitsWritten; the walk of the law BitsWrites. -/
import Derived.Test.YtempedbpieaggaaByteList
namespace Go.Proofs.Ytempedbpieaggaa
open Go Go.RowKit
set_option linter.unusedVariables false

theorem written_big (a : Option Addr) (len cap : Nat) (w : World) (h : 400 < len) :
    Calls Try.prog 17 #[.slice a len cap] w fun e w' => e = .returned (.tuple #[.slice none 0 0, .int .i64 1]) ∧ w = w' := by
  go_enter Try.func17, Try.ntmps17
  go_wp2_with fail
  go_ret2
  exact ⟨rfl, rfl⟩
theorem pow_bd60 (m : Nat) (h : m ≤ 60) : (1 : Int) ≤ 2 ^ m ∧ (2 : Int) ^ m ≤ 1152921504606846976 := by
  have h1 : 1 ≤ 2 ^ m := Nat.one_le_two_pow
  have h2 : 2 ^ m ≤ 2 ^ 60 := Nat.pow_le_pow_right (by decide) (by omega)
  have e : ((2 ^ m : Nat) : Int) = (2 : Int) ^ m := by simp
  omega
theorem flat_len (ps : List (Int × Int)) (hl : ps.length ≤ 400) (hok : okFields ps) : (flat ps).length ≤ 24000 := by
  have h : (flat ps).length ≤ 60 * ps.length := by
    clear hl
    induction ps with
    | nil => simp [flat]
    | cons p ps ih =>
      have h1 := ih (fun x hx => hok x (List.mem_cons_of_mem _ hx))
      have h2 := hok p (List.mem_cons_self ..)
      have e : flat (p :: ps) = bitsOf p.1.toNat p.2 ++ flat ps := by simp [flat]
      rw [e, List.length_append, bitsOf_length, List.length_cons]
      omega
  omega
theorem quot_pos (V D : Int) (hD : 1 ≤ D) (hV : 0 ≤ V) : 0 < V / D ↔ D ≤ V := by
  constructor
  · intro h
    exact Classical.byContradiction fun hn => by rw [Int.ediv_eq_zero_of_lt hV (by omega)] at h; omega
  · intro h
    have : 1 ≤ V / D := Int.le_ediv_of_mul_le (by omega) (by omega)
    omega
set_option maxHeartbeats 1000000 in
theorem written_any (a : Option Addr) (cap : Nat) (ps : List (Int × Int)) (w : World) (hl : ps.length ≤ 400) (hr : Reads2 w w.heap.size a ps) :
    Calls Try.prog 17 #[.slice a ps.length cap] w fun e w' => ∃ v, e = .returned (.tuple #[v, .int .i64 (bwrite ps []).2]) ∧ OwnI .u8 5 w' w.heap.size v (bwrite ps []).1 ∧ Below w.heap.size w w' := by
  have Hbw := Lib.hid (bwrite_bad ps [])
  go_enter Try.func17, Try.ntmps17
  go_wp2_with fail
  go_loopw [11] (fun i wr => ∃ (k : Nat), k ≤ ps.length ∧ i = .int .i64 k ∧ fieldsBad ps = fieldsBad (ps.drop k) ∧ Below w.heap.size w wr) (fun i _ => ps.length - (intOf i).toNat)
  case atStart => exact ⟨0, Nat.zero_le _, rfl, rfl, Below.refl _ _⟩
  case round =>
    obtain ⟨k, hk, rfl, hfb, hbel⟩ := hrel
    have HF := Lib.hid hfb
    have HB := Lib.hid hbel
    have hsz := hbel.size
    clear hfb hbel
    by_cases hlt : k < ps.length
    · obtain ⟨b, off, rfl, hb, hc⟩ := (hr.below HB.out).at_ (by omega)
      have hd := drop_pair ps k hlt
      have hbd := hr.bd k
      have hcs := hc k hlt
      obtain ⟨hc0, hc1⟩ := hcs
      clear hc
      generalize (ps.getD k (0, 0)).1 = W at *
      generalize (ps.getD k (0, 0)).2 = V at *
      have HD := Lib.hid hd
      clear hd
      have hblk : Blk (wr.alloc (.cells #[.int .i64 W, .int .i64 V] 52)) wr.heap.size 52 #[.int .i64 W, .int .i64 V] := Blk.new _ _ _
      by_cases hw : W < 0 ∨ 60 < W
      · have hres : Hid (bwrite ps [] = ([], 2)) := by show _ = _; rw [Hbw.out, HF.out, HD.out, fieldsBad, if_pos hw]; rfl
        rcases hw with hw | hw
        · go_wp2_with fail
          go_ret2
          rw [hres.out]
          exact ⟨_, rfl, OwnI.nil _ _ _ _, HB.out.alloc hsz _⟩
        · have hw0 : decide (W < 0) = false := by simp; omega
          go_wp2_with fail
          go_ret2
          rw [hres.out]
          exact ⟨_, rfl, OwnI.nil _ _ _ _, HB.out.alloc hsz _⟩
      · have hw0 : 0 ≤ W := by omega
        have hw1 : W ≤ 60 := by omega
        have hw0d : decide (W < 0) = false := by simp; omega
        by_cases hv : V < 0
        · have hres : Hid (bwrite ps [] = ([], 11)) := by show _ = _; rw [Hbw.out, HF.out, HD.out, fieldsBad, if_neg hw, if_pos (show V < 0 ∨ 0 < V / 2 ^ W.toNat from .inl hv)]; rfl
          have hvd : decide (V < 0) = true := by simpa using hv
          clear hw
          go_wp2_with fail
          go_quiet (fail)
          go_wp2_with fail
          go_ret2
          rw [hres.out]
          exact ⟨_, rfl, OwnI.nil _ _ _ _, below_drewN (HB.out.alloc hsz _) _⟩
        · have hv0 : 0 ≤ V := by omega
          have hvd : decide (V < 0) = false := by simp; omega
          obtain ⟨n, rfl⟩ := Int.eq_ofNat_of_zero_le hw0
          obtain ⟨D, hD⟩ : ∃ D : Int, D = 2 ^ n := ⟨_, rfl⟩
          have hD1 : 1 ≤ D ∧ D ≤ 1152921504606846976 := by rw [hD]; exact pow_bd60 n (by omega)
          have hw2 : IntKind.i64.wrap (2 ^ n) = D := by rw [← hD]; exact IntWalk.i64_in _ (by omega)
          have hqp := quot_pos V D hD1.1 hv0
          by_cases hq : D ≤ V
          · have hres : Hid (bwrite ps [] = ([], 11)) := by show _ = _; rw [Hbw.out, HF.out, HD.out, fieldsBad, if_neg hw, if_pos (show V < 0 ∨ 0 < V / 2 ^ (n : Int).toNat from .inr (by rw [Int.toNat_natCast, ← hD]; exact hqp.2 hq))]; rfl
            have hqd : decide (D ≤ V) = true := by simpa using hq
            have Hq := Lib.hid hqp
            have H2 := Lib.hid hD
            clear hw hqp hD
            go_wp2_with fail
            go_quiet (fail)
            go_wp2_with fail
            go_ret2
            rw [hres.out]
            exact ⟨_, rfl, OwnI.nil _ _ _ _, below_drewN (HB.out.alloc hsz _) _⟩
          · have hres : Hid (fieldsBad ps = fieldsBad (ps.drop (k + 1))) := by
              show _ = _
              rw [HF.out, HD.out, fieldsBad, if_neg hw, if_neg (show ¬ (V < 0 ∨ 0 < V / 2 ^ (n : Int).toNat) from by rw [Int.toNat_natCast, ← hD]; intro h; rcases h with h | h; omega; exact hq (hqp.1 h))]
            have hqd : decide (D ≤ V) = false := by simpa using hq
            have Hq := Lib.hid hqp
            have H2 := Lib.hid hD
            clear hw hqp hD
            go_wp2_with fail
            go_quiet (fail)
            go_wp2_with fail
            exact ⟨⟨k + 1, by omega, by go_num, hres.out, below_drewN (HB.out.alloc hsz _) _⟩, by simp [intOf]; omega⟩
    · have hke : k = ps.length := by omega
      subst hke
      have hz : fieldsBad ps = 0 := by rw [HF.out, List.drop_length, fieldsBad]
      have hok := fieldsBad_ok ps hz
      have hres : Hid (bwrite ps [] = (pack (flat ps), 0)) := by show _ = _; rw [Hbw.out, if_pos hz]; rfl
      have Hok := Lib.hid hok
      have hfl : (flat ps).length ≤ 24000 := flat_len ps hl hok
      clear hz hok
      go_wp2_with fail
      refine (bitList_any a cap ps _ hl Hok.out ((hr.below HB.out).more hsz)).mono ?_
      rintro e w1 ⟨v1, rfl, ho1, hb1⟩
      obtain ⟨a1, c1, rfl, hr1⟩ := ho1.slc
      go_wp2_with fail
      refine (byteList_any a1 c1 (flat ps) w1.heap.size _ (flat_bits ps) (by omega) (Nat.le_refl _) hr1).mono ?_
      rintro e w2 ⟨v2, rfl, ho2, hb2⟩
      go_wp2_with fail
      go_ret2
      rw [hres.out]
      have h1 := hb1.size
      exact ⟨v2, rfl, ho2.base_mono (by omega), (HB.out.trans (hb1.mono hsz)).trans (hb2.mono (by omega))⟩
theorem bitsWrites_walk_at (a0 : Option Addr) (cap0 : Nat) (ps : List (Int × Int)) (w : World) (hr : Reads2 w w.heap.size a0 ps) :
    Calls Try.prog 5 #[.slice a0 ps.length cap0] w fun e w' => e = .returned (.bool true) ∧ Below w.heap.size w w' := by
  by_cases h : ps.length ≤ 400
  · go_enter Try.func5, Try.ntmps5
    go_wp2_with fail
    refine (bitsWrite_any a0 cap0 ps _ h hr).mono ?_
    rintro e w1 ⟨v1, rfl, ho1, hb1⟩
    go_wp2_with fail
    refine (written_any a0 cap0 ps _ h ((hr.below hb1).more hb1.size)).mono ?_
    rintro e w2 ⟨v2, rfl, ho2, hb2⟩
    obtain ⟨b1, c1, rfl, hr1⟩ := (ho1.below hb2).slc
    obtain ⟨b2, c2, rfl, hr2⟩ := ho2.slc
    go_wp2_with fail
    refine (same_bytes b1 b2 c1 c2 w2.heap.size (bwrite ps []).1 _ hr1 hr2).mono ?_
    rintro e w3 ⟨rfl, hb3⟩
    go_wp2_with fail
    go_ret
    exact ⟨rfl, (hb1.trans (hb2.mono hb1.size)).trans (hb3.mono (Nat.le_trans hb1.size hb2.size))⟩
  · have h' : 400 < ps.length := by omega
    clear h
    go_enter Try.func5, Try.ntmps5
    go_wp2_with fail
    refine (bitsWrite_big a0 ps.length cap0 _ h').mono ?_
    rintro e w1 ⟨rfl, rfl⟩
    go_wp2_with fail
    refine (written_big a0 ps.length cap0 _ h').mono ?_
    rintro e w2 ⟨rfl, rfl⟩
    go_wp2_with fail
    refine (same_bytes none none 0 0 w.heap.size [] _ ⟨by simp, by simp, by simp⟩ ⟨by simp, by simp, by simp⟩).mono ?_
    rintro e w3 ⟨rfl, hb3⟩
    go_wp2_with fail
    go_ret
    exact ⟨rfl, hb3⟩
theorem bitsWrites_walk {H : Type} {enc : TypeId × Value → H} {b0 : Nat} {r : Reach} {d : DataW H} {p : List MemPlace} {base : Nat} {spare : Nat → Bool} {held : Bool} (v : Value) (w : World)
    (hv : Value.okWide Try.prog w r b0 26 v) (h : DataW.Trod enc Try.prog w base spare held 26 v d p) :
    Calls Try.prog 5 #[v] w fun e w' => e = .returned (.bool true) ∧ Below w.heap.size w w' := by
  obtain ⟨a, cap, ps, rfl, hr⟩ := open_pairs Try.underlying26 Try.underlying52 Try.underlying3 Try.underlying3 (by kernel_rfl) (by kernel_rfl) hv h
  exact bitsWrites_walk_at a cap ps w hr
end Go.Proofs.Ytempedbpieaggaa
