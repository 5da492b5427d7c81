/- The contracts of the document's bitAt and BitsRead; the walk of the law BitsReads. -/
import Derived.Test.YtempedbpieaggaaBitsRead
import Derived.Test.YtempedbpieaggaaSame
namespace Go.Proofs.Ytempedbpieaggaa
open Go Go.RowKit
set_option linter.unusedVariables false

theorem shr128i (r : Nat) (h : r < 8) : (128 : Int) / 2 ^ r = 2 ^ (7 - r) ∧ (1 : Int) ≤ 2 ^ (7 - r) ∧ (2 : Int) ^ (7 - r) ≤ 128 := by
  have e : r = 0 ∨ r = 1 ∨ r = 2 ∨ r = 3 ∨ r = 4 ∨ r = 5 ∨ r = 6 ∨ r = 7 := by omega
  rcases e with rfl | rfl | rfl | rfl | rfl | rfl | rfl | rfl <;> decide
theorem bitAt_any (a : Option Addr) (cap B : Nat) (l : List Int) (i : Nat) (w : World) (hi : i < 8 * l.length) (hl : l.length ≤ 140737488351232) (hr : Reads .u8 w B a l) :
    Calls Try.prog 40 #[.slice a l.length cap, .int .i64 i] w fun e w' => e = .returned (.int .i64 (bitOf l i)) ∧ ∃ d, w' = w.drewN d := by
  obtain ⟨b, off, rfl, hb, hc⟩ := hr.at_ (by omega)
  have hc0 := hc (i / 8) (by omega)
  have hxb := hr.u8 (i / 8)
  have hs := shr128i (i % 8) (by omega)
  have hbit : Hid (bitOf l i = l.getD (i / 8) 0 / 2 ^ (7 - i % 8) % 2) := rfl
  have hii : (i : Int) / 8 < (l.length : Int) := by omega
  clear hc
  generalize l.getD (i / 8) 0 = X at *
  obtain ⟨D, hD⟩ : ∃ D : Int, D = 2 ^ (7 - i % 8) := ⟨_, rfl⟩
  rw [← hD] at hs hbit
  have HS := Lib.hid hs.1
  have hD1 := hs.2.1
  have hD2 := hs.2.2
  have HD := Lib.hid hD
  clear hs hD
  obtain ⟨Y, hY⟩ : ∃ Y : Int, Y = X / D := ⟨_, rfl⟩
  have hYb : 0 ≤ Y ∧ Y ≤ 255 := by rw [hY]; exact ⟨Int.ediv_nonneg hxb.1 (by omega), Int.le_trans (Int.ediv_le_self _ hxb.1) hxb.2⟩
  have hshr : (128 : Int) / 2 ^ (i % 8) = D := HS.out
  have hD0 : ¬ D = 0 := by omega
  have hq2' : IntKind.i64.wrap (X.tdiv D) = Y := by rw [Int.tdiv_eq_ediv_of_nonneg hxb.1, ← hY]; exact IntWalk.i64_in _ (by omega)
  have hq3 : Y.tmod 2 = Y % 2 := Int.tmod_eq_emod_of_nonneg hYb.1
  have HY := Lib.hid hY
  clear hY
  go_enter Try.func40, Try.ntmps40
  go_wp2_with fail
  go_quiet (fail)
  go_wp2_with fail
  go_ret
  exact ⟨ret1_of (by rw [hbit.out, ← HY.out]), _, rfl⟩

theorem refRead_big (a a1 : Option Addr) (len cap len1 cap1 : Nat) (w : World) (h : 400 < len1) :
    Calls Try.prog 20 #[.slice a len cap, .slice a1 len1 cap1] w fun e w' => e = .returned (.tuple #[.slice none 0 0, .int .i64 0, .int .i64 1]) ∧ w = w' := by
  go_enter Try.func20, Try.ntmps20
  go_wp2_with fail
  go_ret3
  exact ⟨rfl, rfl⟩
set_option maxHeartbeats 1000000 in
theorem refRead_any (a a1 : Option Addr) (cap cap1 : Nat) (l ws : List Int) (w : World) (hl : l.length ≤ 140737488351232) (hl1 : ws.length ≤ 400) (hr : Reads .u8 w w.heap.size a l) (hr1 : Reads .i64 w w.heap.size a1 ws) :
    Calls Try.prog 20 #[.slice a l.length cap, .slice a1 ws.length cap1] w fun e w' => ∃ v, e = .returned (.tuple #[v, .int .i64 (bread l ws 0 []).2.1, .int .i64 (bread l ws 0 []).2.2]) ∧ OwnI .i64 3 w' w.heap.size v (bread l ws 0 []).1 ∧ Below w.heap.size w w' := by
  obtain ⟨i0, hi, hz0, hz1, hz2⟩ := info_parts infoI64
  go_enter Try.func20, Try.ntmps20
  go_wp2_with fail
  go_loopw [7, 8, 18] (fun at_ v i wr => ∃ (k n : Nat) (out : List Int), k ≤ ws.length ∧ i = .int .i64 k ∧ at_ = .int .i64 n ∧ bread l ws 0 [] = bread l (ws.drop k) n out ∧ n ≤ 8 * l.length ∧ out.length = k ∧ OwnI .i64 3 wr w.heap.size v out ∧ Below w.heap.size w wr) (fun _ _ i _ => ws.length - (intOf i).toNat)
  case atStart => exact ⟨0, 0, [], Nat.zero_le _, rfl, rfl, rfl, Nat.zero_le _, rfl, OwnI.nil _ _ _ _, Below.refl _ _⟩
  case round =>
    obtain ⟨k, n, out, hk, rfl, rfl, hbr, hn, hout, hown, hbel⟩ := hrel
    have HR := Lib.hid hbr
    have HO := Lib.hid hown
    have HB := Lib.hid hbel
    have HL := Lib.hid hout
    have hsz := hbel.size
    clear hbr hown hbel hout
    by_cases hlt : k < ws.length
    · obtain ⟨b, off, rfl, hb, hc⟩ := (hr1.below HB.out).at_ (by omega)
      have hd := drop_getD ws k hlt
      have hbd := hr1.i64 k
      have hc0 := hc k hlt
      clear hc
      generalize ws.getD k 0 = W at *
      have HD := Lib.hid hd
      clear hd
      by_cases hw : W < 0 ∨ 60 < W
      · have hres : Hid (bread l ws 0 [] = ([], 0, 2)) := by show _ = _; rw [HR.out, HD.out, bread, if_pos hw]
        rcases hw with hw | hw
        · go_wp2_with fail
          go_ret3
          rw [hres.out]
          exact ⟨_, rfl, OwnI.nil _ _ _ _, HB.out⟩
        · have hw0 : decide (W < 0) = false := by simp; omega
          go_wp2_with fail
          go_ret3
          rw [hres.out]
          exact ⟨_, rfl, OwnI.nil _ _ _ _, HB.out⟩
      · have hw0 : 0 ≤ W := by omega
        have hw1 : W ≤ 60 := by omega
        by_cases hs : 8 * (l.length : Int) < n + W
        · have hres : Hid (bread l ws 0 [] = ([], 0, 5)) := by show _ = _; rw [HR.out, HD.out, bread, if_neg hw, if_pos hs]
          clear hw
          go_wp2_with fail
          go_ret3
          rw [hres.out]
          exact ⟨_, rfl, OwnI.nil _ _ _ _, HB.out⟩
        · obtain ⟨m, rfl⟩ := Int.eq_ofNat_of_zero_le hw0
          have hres : Hid (bread l ws 0 [] = bread l (ws.drop (k + 1)) (n + m) (out ++ [numAt l n m])) := by show _ = _; rw [HR.out, HD.out, bread, if_neg hw, if_neg hs, Int.toNat_natCast]
          have hs' : n + m ≤ 8 * l.length := by omega
          have hm60 : m ≤ 60 := by omega
          clear hw
          obtain ⟨wo, rfl⟩ : ∃ wo : World, wo = wr := ⟨_, rfl⟩
          go_wp2_with fail
          go_loopw [11, 12] (fun v i wx => ∃ q d : Nat, q ≤ m ∧ i = .int .i64 q ∧ v = .int .i64 (numAt l n q) ∧ wx = wo.drewN d) (fun _ i _ => m - (intOf i).toNat)
          case atStart => exact ⟨0, 0, Nat.zero_le _, rfl, rfl, rfl⟩
          case round =>
            obtain ⟨q, d, hq, rfl, rfl, rfl⟩ := hrel
            have hnb := numAt_bd l n q
            have hp := pow60 q (by omega)
            by_cases hqm : q < m
            · have hbb := bitOf_bd l (n + q)
              have hnum : Hid (numAt l n (q + 1) = 2 * numAt l n q + bitOf l (n + q)) := rfl
              have hp1 := numAt_bd l n (q + 1)
              have hp2 := pow60 (q + 1) (by omega)
              have hnbb : 2 * numAt l n q + bitOf l (n + q) ≤ 1152921504606846976 := by rw [← hnum.out]; omega
              clear hp1 hp2
              generalize numAt l n q = S at *
              go_wp2_with fail
              rw [show ((n : Int) + (q : Int)) = ((n + q : Nat) : Int) from by omega]
              refine (bitAt_any a cap w.heap.size l (n + q) _ (by omega) hl ((hr.below HB.out).below (below_drewN (Below.refl _ _) _))).mono ?_
              rintro e w2 ⟨rfl, d2, rfl⟩
              generalize bitOf l (n + q) = X at *
              go_wp2_with fail
              refine ⟨⟨q + 1, _, by omega, by go_num, by rw [hnum.out], rfl⟩, by simp [intOf]; omega⟩
            · have hqe : q = m := by omega
              subst hqe
              have hwf : (Lit.int .i64 (numAt l n q)).wf = true := wf_i64 (by omega) (by omega)
              generalize hNN : numAt l n q = Z at *
              have HZ := Lib.hid hNN
              have ho2 := HO.out.below (below_drewN (Below.refl _ _) d)
              have HO2 := Lib.hid ho2
              have hol := HL.out
              have hol2 : out.length ≤ 400 := by omega
              clear hNN ho2 hol
              go_wp2_with ((at_builtin; refine wpList_append_ints _ rfl (.tmp 51) (.tmp 53) 32 rfl .i64 w.heap.size 3 i0 8 Try.underlying32 hi hz0 hz1 hz2 u8 out rfl (by exact HO.out.below (below_drewN ((Below.refl _ _).alloc (Nat.le_refl _) _) d)) (wo.heap.size + 1) (some ⟨wo.heap.size, 0, none⟩) 1 1 [Z] rfl rfl (by exact reads_one .i64 3 Z hwf (wo.drewN d)) (by simp only [List.length_cons, List.length_nil]; unfold maxLen; omega) (by simp only [List.length_cons, List.length_nil]; omega) (by simp; omega) ?_; intro v' w3 ho3 hm3))
              have hb3 : Below w.heap.size w w3 := (below_drewN (HB.out.alloc hsz _) d).trans (hm3.below (by simp; omega) (fun g hg => (HO.out.lt g hg).1))
              refine ⟨⟨k + 1, n + q, out ++ [Z], by omega, by go_num, by go_num, hres.out, hs', by rw [List.length_append, HL.out]; rfl, ho3, hb3⟩, by simp [intOf]; omega⟩
    · have hke : k = ws.length := by omega
      have hres : Hid (bread l ws 0 [] = (out, (n : Int), 0)) := by show _ = _; rw [HR.out, hke, List.drop_length, bread]
      subst hke
      go_wp2_with fail
      go_ret3
      rw [hres.out]
      exact ⟨_, rfl, HO.out, HB.out⟩
theorem bitsReads_walk (a0 : Option Addr) (len0 cap0 : Nat) (z0 : List Int) (a1 : Option Addr) (len1 cap1 : Nat) (z1 : List Int) (w : World) (w0 : IsRow .u8 w a0 len0 cap0 z0) (s0 : z0.length * 1 ≤ 140737488351232) (w1 : IsRow .i64 w a1 len1 cap1 z1) (s1 : z1.length * 8 ≤ 140737488351232) :
    Calls Try.prog 6 #[.slice a0 len0 cap0, .slice a1 len1 cap1] w fun e w' => e = .returned (.bool true) ∧ Below w.heap.size w w' := by
  obtain ⟨hr, hl⟩ := w0.reads
  obtain ⟨hr1, hl1⟩ := w1.reads
  have hsz : (z0.take len0).length ≤ 140737488351232 := by rw [List.length_take]; omega
  generalize z0.take len0 = l at *
  generalize z1.take len1 = ws at *
  subst hl hl1
  by_cases h : ws.length ≤ 400
  · go_enter Try.func6, Try.ntmps6
    go_wp2_with fail
    refine (bitsRead_any a0 a1 cap0 cap1 l ws _ hsz h hr hr1).mono ?_
    rintro e x1 ⟨v1, rfl, ho1, hb1⟩
    go_wp2_with fail
    refine (refRead_any a0 a1 cap0 cap1 l ws _ hsz h ((hr.below hb1).more hb1.size) ((hr1.below hb1).more hb1.size)).mono ?_
    rintro e x2 ⟨v2, rfl, ho2, hb2⟩
    obtain ⟨b1, c1, rfl, hq1⟩ := (ho1.below hb2).slc
    obtain ⟨b2, c2, rfl, hq2⟩ := ho2.slc
    go_wp2_with fail
    refine (same_ints b1 b2 c1 c2 x2.heap.size (bread l ws 0 []).1 _ hq1 hq2).mono ?_
    rintro e x3 ⟨rfl, hb3⟩
    go_wp2_with fail
    go_ret
    exact ⟨rfl, (hb1.trans (hb2.mono hb1.size)).trans (hb3.mono (Nat.le_trans hb1.size hb2.size))⟩
  · have h' : 400 < ws.length := by omega
    clear h
    go_enter Try.func6, Try.ntmps6
    go_wp2_with fail
    refine (bitsRead_big a0 a1 l.length cap0 ws.length cap1 _ h').mono ?_
    rintro e x1 ⟨rfl, rfl⟩
    go_wp2_with fail
    refine (refRead_big a0 a1 l.length cap0 ws.length cap1 _ h').mono ?_
    rintro e x2 ⟨rfl, rfl⟩
    go_wp2_with fail
    refine (same_ints none none 0 0 w.heap.size [] _ ⟨by simp, by simp, by simp⟩ ⟨by simp, by simp, by simp⟩).mono ?_
    rintro e x3 ⟨rfl, hb3⟩
    go_wp2_with fail
    go_ret
    exact ⟨rfl, hb3⟩
end Go.Proofs.Ytempedbpieaggaa
