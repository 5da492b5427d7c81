/- The contract of bits.Write. -/
import Derived.Test.YtempedbpieaggaaPen
import Derived.Test.YtempedbpieaggaaRow2
import Derived.Deep.QuietTactic
import Derived.BigQuiet
namespace Go.Proofs.Ytempedbpieaggaa
open Go Go.RowKit
set_option linter.unusedVariables false

/-- Fields as bytes, behind the bits L; or what is refused of them. -/
def bwrite : List (Int × Int) → List Int → List Int × Int
  | [], L => (pack L, 0)
  | p :: ps, L => if p.1 < 0 ∨ 60 < p.1 then ([], 2) else if p.2 < 0 ∨ 0 < p.2 / 2 ^ p.1.toNat then ([], 11) else bwrite ps (L ++ bitsOf p.1.toNat p.2)
theorem drop_pair (ps : List (Int × Int)) (k : Nat) (h : k < ps.length) : ps.drop k = ((ps.getD k (0, 0)).1, (ps.getD k (0, 0)).2) :: ps.drop (k + 1) := by
  have e : ps.getD k (0, 0) = ps[k] := by simp [List.getD, List.getElem?_eq_getElem h]
  rw [e]; exact List.drop_eq_getElem_cons h
theorem PenAt.alloc {w : World} {base g : Nat} {L : List Int} (h : PenAt w base g L) (o : Obj) : PenAt (w.alloc o) base g L := by
  obtain ⟨v, h1, h2⟩ := h
  exact ⟨v, h1.alloc o, h2.below ((Below.refl _ _).alloc (Nat.le_refl _) o)⟩
theorem wide_yes (n : Int) (h0 : 0 ≤ n) (h : n ≤ 60) (w : World) : Calls Try.prog 34 #[.int .i64 n] w fun e w' => e = .returned (.bool true) ∧ w = w' := by
  go_enter Try.func34, Try.ntmps34
  go_wp2
  go_ret
  exact ⟨rfl, rfl⟩
theorem wide_no (n : Int) (h : n < 0 ∨ 60 < n) (w : World) : Calls Try.prog 34 #[.int .i64 n] w fun e w' => e = .returned (.bool false) ∧ w = w' := by
  rcases h with h | h
  · go_enter Try.func34, Try.ntmps34
    go_wp2
    go_ret
    exact ⟨rfl, rfl⟩
  · have hd : decide (n ≤ 60) = false := by simpa using h
    have h0 : 0 ≤ n := by omega
    go_enter Try.func34, Try.ntmps34
    go_wp2
    go_ret
    exact ⟨rfl, rfl⟩

theorem bitsWrite_big (a : Option Addr) (len cap : Nat) (w : World) (h : 400 < len) :
    Calls Try.prog 16 #[.slice a len cap] w fun e w' => e = .returned (.tuple #[.slice none 0 0, .int .i64 1]) ∧ w = w' := by
  go_enter Try.func16, Try.ntmps16
  go_wp2_with fail
  go_ret2
  exact ⟨rfl, rfl⟩
set_option maxHeartbeats 1000000 in
theorem bitsWrite_any (a : Option Addr) (cap : Nat) (ps : List (Int × Int)) (w : World) (hl : ps.length ≤ 400) (hr : Reads2 w w.heap.size a ps) :
    Calls Try.prog 16 #[.slice a ps.length cap] w fun e w' => ∃ v, e = .returned (.tuple #[v, .int .i64 (bwrite ps []).2]) ∧ OwnI .u8 5 w' w.heap.size v (bwrite ps []).1 ∧ Below w.heap.size w w' := by
  go_enter Try.func16, Try.ntmps16
  go_wp2_with fail
  go_loopw [12] (fun i wr => ∃ (k : Nat) (M : List Int), k ≤ ps.length ∧ i = .int .i64 k ∧ bwrite ps [] = bwrite (ps.drop k) M ∧ AllBits M ∧ M.length ≤ 60 * k ∧ PenAt wr w.heap.size w.heap.size M ∧ Kept w.heap.size [5, 50] w wr) (fun i _ => ps.length - (intOf i).toNat)
  case atStart => exact ⟨0, [], Nat.zero_le _, rfl, rfl, allBits_nil, by simp, ⟨.slice none 0 0, Blk.new _ _ _, OwnI.nil _ _ _ _⟩, (Kept.refl _ _ _).alloc _⟩
  case round =>
    obtain ⟨k, M, hk, rfl, hbw, hM, hMl, hpen, hkept⟩ := hrel
    have HB := Lib.hid hbw
    have HM := Lib.hid hM
    have HP := Lib.hid hpen
    have HK := Lib.hid hkept
    have hbel := hkept.below (Nat.le_refl _)
    have hsz := hbel.size
    have Hbel := Lib.hid hbel
    clear hbw hM hpen hkept hbel
    by_cases hlt : k < ps.length
    · obtain ⟨b, off, rfl, hb, hc⟩ := (hr.below Hbel.out).at_ (by omega)
      have hd := drop_pair ps k hlt
      have hbd := hr.bd k
      have hcs := hc k hlt
      obtain ⟨hc0, hc1⟩ := hcs
      clear hc
      generalize (ps.getD k (0, 0)).1 = W at *
      generalize (ps.getD k (0, 0)).2 = V at *
      have HD := Lib.hid hd
      clear hd
      by_cases hw : W < 0 ∨ 60 < W
      · have hres : Hid (bwrite ps [] = ([], 2)) := by show _ = _; rw [HB.out, HD.out, bwrite, if_pos hw]
        have HW := Lib.hid hw
        clear hw
        go_wp2_with ((go_at_call 34; refine (wide_no _ HW.out _).mono ?_; rintro e w' ⟨rfl, rfl⟩))
        go_ret2
        rw [hres.out]
        exact ⟨_, rfl, OwnI.nil _ _ _ _, Hbel.out.alloc hsz _⟩
      · have hw0 : 0 ≤ W := by omega
        have hw1 : W ≤ 60 := by omega
        by_cases hv : V < 0
        · have hres : Hid (bwrite ps [] = ([], 11)) := by show _ = _; rw [HB.out, HD.out, bwrite, if_neg hw, if_pos (.inl hv)]
          clear hw
          go_wp2_with ((go_at_call 34; refine (wide_yes _ hw0 hw1 _).mono ?_; rintro e w' ⟨rfl, rfl⟩))
          go_ret2
          rw [hres.out]
          exact ⟨_, rfl, OwnI.nil _ _ _ _, Hbel.out.alloc hsz _⟩
        · have hv0 : 0 ≤ V := by omega
          by_cases hq : 0 < V / 2 ^ W.toNat
          · have hres : Hid (bwrite ps [] = ([], 11)) := by show _ = _; rw [HB.out, HD.out, bwrite, if_neg hw, if_pos (.inr hq)]
            clear hw
            go_wp2_with ((go_at_call 34; refine (wide_yes _ hw0 hw1 _).mono ?_; rintro e w' ⟨rfl, rfl⟩))
            go_ret2
            rw [hres.out]
            exact ⟨_, rfl, OwnI.nil _ _ _ _, Hbel.out.alloc hsz _⟩
          · have hres : Hid (bwrite ps [] = bwrite (ps.drop (k + 1)) (M ++ bitsOf W.toNat V)) := by show _ = _; rw [HB.out, HD.out, bwrite, if_neg hw, if_neg (show ¬ (V < 0 ∨ 0 < V / 2 ^ W.toNat) from by omega)]
            have hq' : V / 2 ^ W.toNat ≤ 0 := by omega
            have hMl' : M.length ≤ 24000 := by omega
            have hbo : (bitsOf W.toNat V).length = W.toNat := bitsOf_length _ _
            have Hbo := Lib.hid hbo
            clear hw hq hbo
            obtain ⟨n, rfl⟩ := Int.eq_ofNat_of_zero_le hw0
            have hn60 : n ≤ 60 := by omega
            rw [Int.toNat_natCast] at hq'
            go_wp2_with (first | (go_at_call 34; refine (wide_yes _ hw0 hw1 _).mono ?_; rintro e w' ⟨rfl, rfl⟩) | (go_at_call 35; refine (penPut_any w.heap.size w.heap.size M n V _ HM.out hn60 (by omega) (wf_i64 (by omega) (by omega)) (by simp; omega) (Nat.le_refl _) (HP.out.alloc _)).mono ?_; rintro e w2 ⟨rfl, hp2, hk2⟩))
            exact ⟨⟨k + 1, _, by omega, by go_num, hres.out, HM.out.append (bitsOf_bits _ _), by rw [List.length_append, Hbo.out]; omega, by rw [Int.toNat_natCast]; exact hp2, (HK.out.alloc _).trans hk2⟩, by simp [intOf]; omega⟩
    · have hke : k = ps.length := by omega
      have hres : Hid (bwrite ps [] = (pack M, 0)) := by show _ = _; rw [HB.out, hke, List.drop_length, bwrite]
      subst hke
      obtain ⟨v, hblk, hown⟩ := HP.out
      have hc0 := hblk.two0
      have HO := Lib.hid hown
      clear hown hblk
      go_wp2
      go_ret2
      rw [hres.out]
      exact ⟨v, rfl, HO.out, Hbel.out⟩
end Go.Proofs.Ytempedbpieaggaa
