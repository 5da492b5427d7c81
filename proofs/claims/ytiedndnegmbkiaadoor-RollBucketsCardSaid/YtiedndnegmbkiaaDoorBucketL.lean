/- The law RollBuckets. -/
import Derived.Test.YtiedndnegmbkiaaDoorBucket
namespace Go.Proofs.YtiedndnegmbkiaaDoor.Nice
open Go
set_option linter.unusedVariables false
set_option linter.unusedSimpArgs false
set_option maxRecDepth 100000
set_option maxHeartbeats 4000000

theorem buck_bad (l : List Smp) (hin : SmpIn l) (w : Int) (hwi : inRange w) (hE : bucE l w ≠ 0) : Spec Tryd.prog GC 18 [smpV l, SV.i w] [] (fun r ho => r = SV.tup [.d .nils, .d .nils, SV.i (bucE l w)] ∧ ho = []) := by
  by_cases hw : 1 ≤ w ∧ w ≤ 1048576
  · by_cases hz : sfault l = 0
    · by_cases hn : 100 < (bk l w l.length).1.length
      · exact buck_full l hin w hwi hw hz hn
      · exact absurd (by unfold bucE; rw [if_neg (by omega), if_neg (by omega), if_neg hn]) hE
    · exact buck_fault l hin w hwi hw hz
  · exact buck_range l hin w hwi hw
theorem refBuck_bad (l : List Smp) (hin : SmpIn l) (w : Int) (hwi : inRange w) (hE : bucE l w ≠ 0) : Spec Tryd.prog GC 19 [smpV l, SV.i w] [] (fun r ho => r = SV.tup [.d .nils, .d .nils, SV.i (bucE l w)] ∧ ho = []) := by
  by_cases hw : 1 ≤ w ∧ w ≤ 1048576
  · by_cases hz : sfault l = 0
    · by_cases hn : 100 < (bk l w l.length).1.length
      · exact refBuck_full l hin w hwi hw hz hn
      · exact absurd (by unfold bucE; rw [if_neg (by omega), if_neg (by omega), if_neg hn]) hE
    · exact refBuck_fault l hin w hwi hw hz
  · exact refBuck_range l hin w hwi hw
theorem buc_good {l : List Smp} {w : Int} (hE : bucE l w = 0) : (1 ≤ w ∧ w ≤ 1048576) ∧ sfault l = 0 ∧ (bk l w l.length).1.length ≤ 100 := by
  unfold bucE at hE
  split at hE
  · cases hE
  · split at hE
    · next h => exact absurd hE h
    · next h =>
      split at hE
      · cases hE
      · exact ⟨by omega, by omega, by omega⟩

theorem eqS_any (x : List Smp) (hx0 : x.length ≤ 1000000) : Spec Tryd.prog GC 15 [smpV x, smpV x] [] (fun r ho => r = SV.b true ∧ ho = []) := by
  refine start 26 0 Tryd.func15 rfl rfl rfl rfl ?_
  refine r1 ?_
  refine s1 4 0 1 rfl rfl rfl rfl rfl rfl trivial ?_
  refine e1 8 rfl ?_
  refine keep [0, 1] rfl ?_
  refine W_seq ?_
  refine r1 ?_
  refine s1 6 8 1 rfl rfl rfl rfl rfl rfl trivial ?_
  refine s1 7 16 2 rfl rfl rfl rfl rfl rfl (by first | trivial | omega | (simp only [List.length_map, List.length_append, List.length_cons, List.length_nil] at *; omega)) ?_
  refine s1 8 24 3 rfl rfl rfl rfl rfl rfl trivial ?_
  refine s1 9 32 4 rfl rfl rfl rfl rfl rfl (by first | trivial | omega | (simp only [List.length_map, List.length_append, List.length_cons, List.length_nil] at *; omega)) ?_
  refine s1 10 40 5 rfl rfl rfl rfl rfl rfl (by first | trivial | omega | (simp only [List.length_map, List.length_append, List.length_cons, List.length_nil] at *; omega)) ?_
  refine e1 48 rfl ?_
  refine keep [0, 1, 10] rfl ?_
  refine q1 rfl (fun hc1 => ?_) (fun hc1 => ?_)
  · skip
    exfalso; simp at hc1
  · skip
    try simp only [decide_eq_true_eq, decide_eq_false_iff_not, Bool.not_eq_true', Bool.not_eq_false', beq_iff_eq, bne_iff_ne, beq_eq_false_iff_ne, Bool.and_eq_true, Bool.or_eq_true, Bool.and_eq_false_iff, Bool.or_eq_false_iff, ge_iff_le, gt_iff_lt, Int.not_lt, Int.not_le, ne_eq, Decidable.not_not, bne_eq_false_iff_eq] at hc1
    refine W_skip ?_
    refine tn ?_
    refine W_seq ?_
    refine r1 ?_
    refine s1 5 48 1 rfl rfl rfl rfl rfl rfl trivial ?_
    refine e1 56 rfl ?_
    refine keep [0, 1, 5] rfl ?_
    refine W_block ?_
    refine loop (α := Nat) 0 (fun n => [(0, smpV x), (1, smpV x), (5, SV.i (n))]) (fun n => []) (fun n => (n) ≤ x.length) (fun n => x.length - (n)) (((0) : Nat)) [] (fun _ => rfl) (show (0) ≤ x.length from (Nat.zero_le _)) rfl ⟨rfl, rfl, rfl, trivial⟩ trivial (fun n hx => ?_)
    show W _ _ _ ⟨tOf [(0, smpV x), (1, smpV x), (5, SV.i n)], hOf [], 0⟩
    have hx : n ≤ x.length := hx
    refine W_seq ?_
    refine r1 ?_
    refine s1 11 0 1 rfl rfl rfl rfl rfl rfl trivial ?_
    refine s1 12 8 2 rfl rfl rfl rfl rfl rfl trivial ?_
    refine s1 13 16 3 rfl rfl rfl rfl rfl rfl (by first | trivial | omega | (simp only [List.length_map, List.length_append, List.length_cons, List.length_nil] at *; omega)) ?_
    refine s1 14 24 4 rfl rfl rfl rfl rfl rfl (by first | trivial | omega | (simp only [List.length_map, List.length_append, List.length_cons, List.length_nil] at *; omega)) ?_
    refine e1 32 rfl ?_
    refine keep [0, 1, 5, 14] rfl ?_
    refine q1 rfl (fun hc4 => ?_) (fun hc4 => ?_)
    · skip
      try simp only [decide_eq_true_eq, decide_eq_false_iff_not, Bool.not_eq_true', Bool.not_eq_false', beq_iff_eq, bne_iff_ne, beq_eq_false_iff_ne, Bool.and_eq_true, Bool.or_eq_true, Bool.and_eq_false_iff, Bool.or_eq_false_iff, ge_iff_le, gt_iff_lt, Int.not_lt, Int.not_le, ne_eq, Decidable.not_not, bne_eq_false_iff_eq] at hc4
      refine W_skip ?_
      refine tn ?_
      refine W_seq ?_
      refine W_block ?_
      refine rd1 rfl ?_
      refine d1 17 32 1 rfl rfl rfl rfl rfl rfl trivial ?_
      refine d1 18 40 2 rfl rfl rfl rfl rfl rfl trivial ?_
      refine d1 19 48 3 rfl rfl rfl rfl rfl rfl (by first | trivial | omega | (simp only [List.length_map, List.length_append, List.length_cons, List.length_nil] at *; omega)) ?_
      refine d1 20 56 4 rfl rfl rfl rfl rfl rfl (by first | trivial | omega | (simp only [List.length_map, List.length_append, List.length_cons, List.length_nil] at *; omega)) ?_
      refine val 20 (smpS (x.getD n default)) rfl (by rfl) ?_
      refine d1 21 64 5 rfl rfl rfl rfl rfl rfl trivial ?_
      refine d1 22 72 6 rfl rfl rfl rfl rfl rfl trivial ?_
      refine d1 23 80 7 rfl rfl rfl rfl rfl rfl (by first | trivial | omega | (simp only [List.length_map, List.length_append, List.length_cons, List.length_nil] at *; omega)) ?_
      refine d1 24 88 8 rfl rfl rfl rfl rfl rfl (by first | trivial | omega | (simp only [List.length_map, List.length_append, List.length_cons, List.length_nil] at *; omega)) ?_
      refine val 24 (smpS (x.getD n default)) rfl (by rfl) ?_
      refine dEq (op := .neq) 25 96 9 rfl rfl rfl rfl rfl rfl rfl rfl rfl (by kernel_rfl) (by kernel_rfl) rfl (.inr ⟨rfl, rfl⟩) ?_
      refine de1 104 rfl (by kernel_rfl) ?_
      refine keep [0, 1, 5, 25] rfl ?_
      refine q1 rfl (fun hc6 => ?_) (fun hc6 => ?_)
      · skip
        exfalso; simp at hc6
      · skip
        try simp only [decide_eq_true_eq, decide_eq_false_iff_not, Bool.not_eq_true', Bool.not_eq_false', beq_iff_eq, bne_iff_ne, beq_eq_false_iff_ne, Bool.and_eq_true, Bool.or_eq_true, Bool.and_eq_false_iff, Bool.or_eq_false_iff, ge_iff_le, gt_iff_lt, Int.not_lt, Int.not_le, ne_eq, Decidable.not_not, bne_eq_false_iff_eq] at hc6
        refine W_skip ?_
        refine bn ?_
        refine tn ?_
        refine r0 ?_
        refine s1 15 104 1 rfl rfl rfl rfl rfl rfl trivial ?_
        refine sA 16 112 2 rfl rfl rfl rfl rfl rfl rfl rfl rfl (by unfold inRange; omega) ?_
        refine s1 5 120 3 rfl rfl rfl rfl rfl rfl trivial ?_
        refine e1 128 rfl ?_
        refine tn ?_
        exact again ((n + 1 : Nat)) [] (show (n + 1) ≤ x.length from (by omega)) (show x.length - (n + 1) < x.length - n from (by omega)) rfl ⟨rfl, rfl, rfl, trivial⟩ trivial
    · skip
      try simp only [decide_eq_true_eq, decide_eq_false_iff_not, Bool.not_eq_true', Bool.not_eq_false', beq_iff_eq, bne_iff_ne, beq_eq_false_iff_ne, Bool.and_eq_true, Bool.or_eq_true, Bool.and_eq_false_iff, Bool.or_eq_false_iff, ge_iff_le, gt_iff_lt, Int.not_lt, Int.not_le, ne_eq, Decidable.not_not, bne_eq_false_iff_eq] at hc4
      refine W_exit ?_
      refine tx ?_
      refine tx ?_
      refine bx ?_
      refine tn ?_
      refine r1 ?_
      refine s1 4 32 1 rfl rfl rfl rfl rfl rfl trivial ?_
      refine e1 40 rfl ?_
      refine keep [4] rfl ?_
      refine W_ret ?_
      exact out1 4 (SV.b true) (π := []) (hout := []) Tryd.results15 rfl rfl rfl rfl trivial ⟨rfl, rfl⟩

theorem eqS_nil : Spec Tryd.prog GC 15 [.d .nils, .d .nils] [] (fun r ho => r = SV.b true ∧ ho = []) :=
  (eqS_any [] (by decide)).args rfl fun M ρ i x' hx => by
    match i, hx with
    | 0, hx => cases hx; exact ⟨_, rfl, fun u hu => hu.nil_vec⟩
    | 1, hx => cases hx; exact ⟨_, rfl, fun u hu => hu.nil_vec⟩
    | n + 2, hx => simp at hx

theorem lawRB_bad (l : List Smp) (hin : SmpIn l) (w : Int) (hwi : inRange w) (hE : bucE l w ≠ 0) : Spec Tryd.prog GC 6 [smpV l, SV.i w] [] (fun r _ => r = SV.b true) := by
  refine start 57 0 Tryd.func6 rfl rfl rfl rfl ?_
  refine r1 ?_
  refine s1 4 0 1 rfl rfl rfl rfl rfl rfl trivial ?_
  refine e1 8 rfl ?_
  refine keep [0, 1] rfl ?_
  refine r1 ?_
  refine s1 13 8 1 rfl rfl rfl rfl rfl rfl trivial ?_
  refine s1 14 16 2 rfl rfl rfl rfl rfl rfl trivial ?_
  refine c1 (buck_bad l hin w hwi hE) [] [] 15 24 3 rfl rfl rfl rfl rfl rfl rfl rfl Tryd.func18 rfl rfl rfl rfl trivial rfl rfl ?_
  refine s1 12 32 4 rfl rfl rfl rfl rfl rfl trivial ?_
  refine s1 16 40 5 rfl rfl rfl rfl rfl rfl trivial ?_
  refine s1 17 48 6 rfl rfl rfl rfl rfl rfl trivial ?_
  refine s1 18 56 7 rfl rfl rfl rfl rfl rfl trivial ?_
  refine s1 5 64 8 rfl rfl rfl rfl rfl rfl trivial ?_
  refine s1 6 72 9 rfl rfl rfl rfl rfl rfl trivial ?_
  refine s1 7 80 10 rfl rfl rfl rfl rfl rfl trivial ?_
  refine e1 88 rfl ?_
  refine keep [0, 1, 5, 6, 7] rfl ?_
  refine r1 ?_
  refine s1 20 88 1 rfl rfl rfl rfl rfl rfl trivial ?_
  refine s1 21 96 2 rfl rfl rfl rfl rfl rfl trivial ?_
  refine c1 (refBuck_bad l hin w hwi hE) [] [] 22 104 3 rfl rfl rfl rfl rfl rfl rfl rfl Tryd.func19 rfl rfl rfl rfl trivial rfl rfl ?_
  refine s1 19 112 4 rfl rfl rfl rfl rfl rfl trivial ?_
  refine s1 23 120 5 rfl rfl rfl rfl rfl rfl trivial ?_
  refine s1 24 128 6 rfl rfl rfl rfl rfl rfl trivial ?_
  refine s1 25 136 7 rfl rfl rfl rfl rfl rfl trivial ?_
  refine s1 8 144 8 rfl rfl rfl rfl rfl rfl trivial ?_
  refine s1 9 152 9 rfl rfl rfl rfl rfl rfl trivial ?_
  refine s1 10 160 10 rfl rfl rfl rfl rfl rfl trivial ?_
  refine e1 168 rfl ?_
  refine keep [5, 6, 7, 8, 9, 10] rfl ?_
  refine W_seq ?_
  refine r1 ?_
  refine s1 26 168 1 rfl rfl rfl rfl rfl rfl trivial ?_
  refine s1 27 176 2 rfl rfl rfl rfl rfl rfl trivial ?_
  refine c1 (eqS_nil) [] [] 28 184 3 rfl rfl rfl rfl rfl rfl rfl rfl Tryd.func15 rfl rfl rfl rfl trivial rfl rfl ?_
  refine s1 29 192 4 rfl rfl rfl rfl rfl rfl trivial ?_
  refine s1 30 200 5 rfl rfl rfl rfl rfl rfl trivial ?_
  refine ask 30 rfl (fun hg3_30 => ?_) (fun hg3_30 => ?_)
  · skip
    try simp only [decide_eq_true_eq, decide_eq_false_iff_not, Bool.not_eq_true', Bool.not_eq_false', beq_iff_eq, bne_iff_ne, beq_eq_false_iff_ne, Bool.and_eq_true, Bool.or_eq_true, Bool.and_eq_false_iff, Bool.or_eq_false_iff, ge_iff_le, gt_iff_lt, Int.not_lt, Int.not_le, ne_eq, Decidable.not_not, bne_eq_false_iff_eq] at hg3_30
    all_goals (exfalso; first | (simp at hg3_30; done) | (simp at hg3_30; omega) | (simp_all; omega) | omega)
  · skip
    try simp only [decide_eq_true_eq, decide_eq_false_iff_not, Bool.not_eq_true', Bool.not_eq_false', beq_iff_eq, bne_iff_ne, beq_eq_false_iff_ne, Bool.and_eq_true, Bool.or_eq_true, Bool.and_eq_false_iff, Bool.or_eq_false_iff, ge_iff_le, gt_iff_lt, Int.not_lt, Int.not_le, ne_eq, Decidable.not_not, bne_eq_false_iff_eq] at hg3_30
    refine g1 4 false 30 31 6 rfl rfl rfl rfl rfl ?_
    refine s1 31 208 6 rfl rfl rfl rfl rfl rfl trivial ?_
    refine g1 4 false 30 32 7 rfl rfl rfl rfl rfl ?_
    refine s1 32 216 7 rfl rfl rfl rfl rfl rfl (by first | trivial | omega | (simp only [List.length_map, List.length_append, List.length_cons, List.length_nil] at *; omega)) ?_
    refine g1 4 false 30 33 8 rfl rfl rfl rfl rfl ?_
    refine s1 33 224 8 rfl rfl rfl rfl rfl rfl trivial ?_
    refine g1 4 false 30 34 9 rfl rfl rfl rfl rfl ?_
    refine s1 34 232 9 rfl rfl rfl rfl rfl rfl (by first | trivial | omega | (simp only [List.length_map, List.length_append, List.length_cons, List.length_nil] at *; omega)) ?_
    refine g1 4 false 30 35 10 rfl rfl rfl rfl rfl ?_
    refine s1 35 240 10 rfl rfl rfl rfl rfl rfl (by first | trivial | omega | (simp only [List.length_map, List.length_append, List.length_cons, List.length_nil] at *; omega)) ?_
    refine s1 36 248 11 rfl rfl rfl rfl rfl rfl trivial ?_
    refine s1 37 256 12 rfl rfl rfl rfl rfl rfl trivial ?_
    refine ask 37 rfl (fun hg3_37 => ?_) (fun hg3_37 => ?_)
    · skip
      try simp only [decide_eq_true_eq, decide_eq_false_iff_not, Bool.not_eq_true', Bool.not_eq_false', beq_iff_eq, bne_iff_ne, beq_eq_false_iff_ne, Bool.and_eq_true, Bool.or_eq_true, Bool.and_eq_false_iff, Bool.or_eq_false_iff, ge_iff_le, gt_iff_lt, Int.not_lt, Int.not_le, ne_eq, Decidable.not_not, bne_eq_false_iff_eq] at hg3_37
      all_goals (exfalso; first | (simp at hg3_37; done) | (simp at hg3_37; omega) | (simp_all; omega) | omega)
    · skip
      try simp only [decide_eq_true_eq, decide_eq_false_iff_not, Bool.not_eq_true', Bool.not_eq_false', beq_iff_eq, bne_iff_ne, beq_eq_false_iff_ne, Bool.and_eq_true, Bool.or_eq_true, Bool.and_eq_false_iff, Bool.or_eq_false_iff, ge_iff_le, gt_iff_lt, Int.not_lt, Int.not_le, ne_eq, Decidable.not_not, bne_eq_false_iff_eq] at hg3_37
      refine g1 11 false 37 38 13 rfl rfl rfl rfl rfl ?_
      refine s1 38 264 13 rfl rfl rfl rfl rfl rfl trivial ?_
      refine g1 11 false 37 39 14 rfl rfl rfl rfl rfl ?_
      refine s1 39 272 14 rfl rfl rfl rfl rfl rfl trivial ?_
      refine g1 11 false 37 40 15 rfl rfl rfl rfl rfl ?_
      refine s1 40 280 15 rfl rfl rfl rfl rfl rfl (by first | trivial | omega | (simp only [List.length_map, List.length_append, List.length_cons, List.length_nil] at *; omega)) ?_
      refine s1 41 288 16 rfl rfl rfl rfl rfl rfl trivial ?_
      refine e1 296 rfl ?_
      refine keep [6, 9, 41] rfl ?_
      refine q1 rfl (fun hc3 => ?_) (fun hc3 => ?_)
      · skip
        exfalso; simp at hc3
      · skip
        try simp only [decide_eq_true_eq, decide_eq_false_iff_not, Bool.not_eq_true', Bool.not_eq_false', beq_iff_eq, bne_iff_ne, beq_eq_false_iff_ne, Bool.and_eq_true, Bool.or_eq_true, Bool.and_eq_false_iff, Bool.or_eq_false_iff, ge_iff_le, gt_iff_lt, Int.not_lt, Int.not_le, ne_eq, Decidable.not_not, bne_eq_false_iff_eq] at hc3
        refine W_skip ?_
        refine tn ?_
        refine W_seq ?_
        refine r1 ?_
        refine s1 11 296 1 rfl rfl rfl rfl rfl rfl trivial ?_
        refine e1 304 rfl ?_
        refine keep [6, 9, 11] rfl ?_
        refine W_block ?_
        refine W_unroll 1 ?_
        refine unr ?_
        refine W_seq ?_
        refine r1 ?_
        refine s1 42 304 1 rfl rfl rfl rfl rfl rfl trivial ?_
        refine s1 43 312 2 rfl rfl rfl rfl rfl rfl trivial ?_
        refine s1 44 320 3 rfl rfl rfl rfl rfl rfl (by first | trivial | omega | (simp only [List.length_map, List.length_append, List.length_cons, List.length_nil] at *; omega)) ?_
        refine s1 45 328 4 rfl rfl rfl rfl rfl rfl (by first | trivial | omega | (simp only [List.length_map, List.length_append, List.length_cons, List.length_nil] at *; omega)) ?_
        refine e1 336 rfl ?_
        refine keep [6, 9, 11, 45] rfl ?_
        refine q1 rfl (fun hc6 => ?_) (fun hc6 => ?_)
        · skip
          exact absurd hc6 (by decide)
        · skip
          try simp only [decide_eq_true_eq, decide_eq_false_iff_not, Bool.not_eq_true', Bool.not_eq_false', beq_iff_eq, bne_iff_ne, beq_eq_false_iff_ne, Bool.and_eq_true, Bool.or_eq_true, Bool.and_eq_false_iff, Bool.or_eq_false_iff, ge_iff_le, gt_iff_lt, Int.not_lt, Int.not_le, ne_eq, Decidable.not_not, bne_eq_false_iff_eq] at hc6
          refine W_exit ?_
          refine tx ?_
          refine tx ?_
          refine bx ?_
          refine tn ?_
          refine r1 ?_
          refine s1 4 336 1 rfl rfl rfl rfl rfl rfl trivial ?_
          refine e1 344 rfl ?_
          refine keep [4] rfl ?_
          refine W_ret ?_
          exact out1 4 (SV.b true) (π := []) (hout := []) Tryd.results6 rfl rfl rfl rfl trivial rfl

theorem lawRB_ok (l : List Smp) (hin : SmpIn l) (w : Int) (hwi : inRange w) (hE : bucE l w = 0) : Spec Tryd.prog GC 6 [smpV l, SV.i w] [] (fun r _ => r = SV.b true) := by
  obtain ⟨hw, hz, hn⟩ := buc_good hE
  have hlk := bk_len l w l.length
  refine start 57 0 Tryd.func6 rfl rfl rfl rfl ?_
  refine r1 ?_
  refine s1 4 0 1 rfl rfl rfl rfl rfl rfl trivial ?_
  refine e1 8 rfl ?_
  refine keep [0, 1] rfl ?_
  refine r1 ?_
  refine s1 13 8 1 rfl rfl rfl rfl rfl rfl trivial ?_
  refine s1 14 16 2 rfl rfl rfl rfl rfl rfl trivial ?_
  refine c1 (buck_ok l hin w hwi hw hz hn) [] [24, 25] 15 24 3 rfl rfl rfl rfl rfl rfl rfl rfl Tryd.func18 rfl rfl rfl rfl trivial rfl rfl ?_
  refine s1 12 32 4 rfl rfl rfl rfl rfl rfl trivial ?_
  refine s1 16 40 5 rfl rfl rfl rfl rfl rfl trivial ?_
  refine s1 17 48 6 rfl rfl rfl rfl rfl rfl trivial ?_
  refine s1 18 56 7 rfl rfl rfl rfl rfl rfl trivial ?_
  refine s1 5 64 8 rfl rfl rfl rfl rfl rfl trivial ?_
  refine s1 6 72 9 rfl rfl rfl rfl rfl rfl trivial ?_
  refine s1 7 80 10 rfl rfl rfl rfl rfl rfl trivial ?_
  refine e1 88 rfl ?_
  refine keep [0, 1, 5, 6, 7] rfl ?_
  refine r1 ?_
  refine s1 20 88 1 rfl rfl rfl rfl rfl rfl trivial ?_
  refine s1 21 96 2 rfl rfl rfl rfl rfl rfl trivial ?_
  refine c1 (refBuck_ok l hin w hwi hw hz hn) [] [104, 105] 22 104 3 rfl rfl rfl rfl rfl rfl rfl rfl Tryd.func19 rfl rfl rfl rfl trivial rfl rfl ?_
  refine s1 19 112 4 rfl rfl rfl rfl rfl rfl trivial ?_
  refine s1 23 120 5 rfl rfl rfl rfl rfl rfl trivial ?_
  refine s1 24 128 6 rfl rfl rfl rfl rfl rfl trivial ?_
  refine s1 25 136 7 rfl rfl rfl rfl rfl rfl trivial ?_
  refine s1 8 144 8 rfl rfl rfl rfl rfl rfl trivial ?_
  refine s1 9 152 9 rfl rfl rfl rfl rfl rfl trivial ?_
  refine s1 10 160 10 rfl rfl rfl rfl rfl rfl trivial ?_
  refine e1 168 rfl ?_
  refine keep [5, 6, 7, 8, 9, 10] rfl ?_
  refine W_seq ?_
  refine freeze 5 24 (bk l w l.length).1.length rfl rfl (Nat.le_refl _) ?_
  refine freeze 6 25 (bk l w l.length).2.length rfl rfl (Nat.le_refl _) ?_
  refine freeze 8 104 (bk l w l.length).1.length rfl rfl (Nat.le_refl _) ?_
  refine freeze 9 105 (bk l w l.length).2.length rfl rfl (Nat.le_refl _) ?_
  refine r1 ?_
  refine s1 26 168 1 rfl rfl rfl rfl rfl rfl trivial ?_
  refine s1 27 176 2 rfl rfl rfl rfl rfl rfl trivial ?_
  refine c1 (eqS_any (bk l w l.length).1 (by omega)) [] [] 28 184 3 rfl rfl rfl rfl rfl rfl rfl rfl Tryd.func15 rfl rfl rfl rfl trivial rfl rfl ?_
  refine s1 29 192 4 rfl rfl rfl rfl rfl rfl trivial ?_
  refine s1 30 200 5 rfl rfl rfl rfl rfl rfl trivial ?_
  refine ask 30 rfl (fun hg3_30 => ?_) (fun hg3_30 => ?_)
  · skip
    try simp only [decide_eq_true_eq, decide_eq_false_iff_not, Bool.not_eq_true', Bool.not_eq_false', beq_iff_eq, bne_iff_ne, beq_eq_false_iff_ne, Bool.and_eq_true, Bool.or_eq_true, Bool.and_eq_false_iff, Bool.or_eq_false_iff, ge_iff_le, gt_iff_lt, Int.not_lt, Int.not_le, ne_eq, Decidable.not_not, bne_eq_false_iff_eq] at hg3_30
    all_goals (exfalso; first | (simp at hg3_30; done) | (simp at hg3_30; omega) | (simp_all; omega) | omega)
  · skip
    try simp only [decide_eq_true_eq, decide_eq_false_iff_not, Bool.not_eq_true', Bool.not_eq_false', beq_iff_eq, bne_iff_ne, beq_eq_false_iff_ne, Bool.and_eq_true, Bool.or_eq_true, Bool.and_eq_false_iff, Bool.or_eq_false_iff, ge_iff_le, gt_iff_lt, Int.not_lt, Int.not_le, ne_eq, Decidable.not_not, bne_eq_false_iff_eq] at hg3_30
    refine g1 4 false 30 31 6 rfl rfl rfl rfl rfl ?_
    refine s1 31 208 6 rfl rfl rfl rfl rfl rfl trivial ?_
    refine g1 4 false 30 32 7 rfl rfl rfl rfl rfl ?_
    refine s1 32 216 7 rfl rfl rfl rfl rfl rfl (by first | trivial | omega | (simp only [List.length_map, List.length_append, List.length_cons, List.length_nil] at *; omega)) ?_
    refine g1 4 false 30 33 8 rfl rfl rfl rfl rfl ?_
    refine s1 33 224 8 rfl rfl rfl rfl rfl rfl trivial ?_
    refine g1 4 false 30 34 9 rfl rfl rfl rfl rfl ?_
    refine s1 34 232 9 rfl rfl rfl rfl rfl rfl (by first | trivial | omega | (simp only [List.length_map, List.length_append, List.length_cons, List.length_nil] at *; omega)) ?_
    refine g1 4 false 30 35 10 rfl rfl rfl rfl rfl ?_
    refine s1 35 240 10 rfl rfl rfl rfl rfl rfl (by first | trivial | omega | (simp only [List.length_map, List.length_append, List.length_cons, List.length_nil] at *; omega)) ?_
    refine s1 36 248 11 rfl rfl rfl rfl rfl rfl trivial ?_
    refine s1 37 256 12 rfl rfl rfl rfl rfl rfl trivial ?_
    refine ask 37 rfl (fun hg3_37 => ?_) (fun hg3_37 => ?_)
    · skip
      try simp only [decide_eq_true_eq, decide_eq_false_iff_not, Bool.not_eq_true', Bool.not_eq_false', beq_iff_eq, bne_iff_ne, beq_eq_false_iff_ne, Bool.and_eq_true, Bool.or_eq_true, Bool.and_eq_false_iff, Bool.or_eq_false_iff, ge_iff_le, gt_iff_lt, Int.not_lt, Int.not_le, ne_eq, Decidable.not_not, bne_eq_false_iff_eq] at hg3_37
      all_goals (exfalso; first | (simp at hg3_37; done) | (simp at hg3_37; omega) | (simp_all; omega) | omega)
    · skip
      try simp only [decide_eq_true_eq, decide_eq_false_iff_not, Bool.not_eq_true', Bool.not_eq_false', beq_iff_eq, bne_iff_ne, beq_eq_false_iff_ne, Bool.and_eq_true, Bool.or_eq_true, Bool.and_eq_false_iff, Bool.or_eq_false_iff, ge_iff_le, gt_iff_lt, Int.not_lt, Int.not_le, ne_eq, Decidable.not_not, bne_eq_false_iff_eq] at hg3_37
      refine g1 11 false 37 38 13 rfl rfl rfl rfl rfl ?_
      refine s1 38 264 13 rfl rfl rfl rfl rfl rfl trivial ?_
      refine g1 11 false 37 39 14 rfl rfl rfl rfl rfl ?_
      refine s1 39 272 14 rfl rfl rfl rfl rfl rfl trivial ?_
      refine g1 11 false 37 40 15 rfl rfl rfl rfl rfl ?_
      refine s1 40 280 15 rfl rfl rfl rfl rfl rfl (by first | trivial | omega | (simp only [List.length_map, List.length_append, List.length_cons, List.length_nil] at *; omega)) ?_
      refine s1 41 288 16 rfl rfl rfl rfl rfl rfl trivial ?_
      refine e1 296 rfl ?_
      refine keep [6, 9, 41] rfl ?_
      refine q1 rfl (fun hc3 => ?_) (fun hc3 => ?_)
      · skip
        exfalso; simp at hc3
      · skip
        try simp only [decide_eq_true_eq, decide_eq_false_iff_not, Bool.not_eq_true', Bool.not_eq_false', beq_iff_eq, bne_iff_ne, beq_eq_false_iff_ne, Bool.and_eq_true, Bool.or_eq_true, Bool.and_eq_false_iff, Bool.or_eq_false_iff, ge_iff_le, gt_iff_lt, Int.not_lt, Int.not_le, ne_eq, Decidable.not_not, bne_eq_false_iff_eq] at hc3
        refine W_skip ?_
        refine tn ?_
        refine W_seq ?_
        refine r1 ?_
        refine s1 11 296 1 rfl rfl rfl rfl rfl rfl trivial ?_
        refine e1 304 rfl ?_
        refine keep [6, 9, 11] rfl ?_
        refine W_block ?_
        refine loop (α := Nat) 0 (fun n => [(6, rollV (bk l w l.length).2), (9, rollV (bk l w l.length).2), (11, SV.i (n))]) (fun n => []) (fun n => (n) ≤ (bk l w l.length).2.length) (fun n => (bk l w l.length).2.length - (n)) (((0) : Nat)) [] (fun _ => rfl) (show (0) ≤ (bk l w l.length).2.length from (Nat.zero_le _)) rfl ⟨rfl, rfl, rfl, trivial⟩ trivial (fun n hx => ?_)
        show W _ _ _ ⟨tOf [(6, rollV (bk l w l.length).2), (9, rollV (bk l w l.length).2), (11, SV.i n)], hOf [], 0⟩
        have hx : n ≤ (bk l w l.length).2.length := hx
        refine W_seq ?_
        refine r1 ?_
        refine s1 42 0 1 rfl rfl rfl rfl rfl rfl trivial ?_
        refine s1 43 8 2 rfl rfl rfl rfl rfl rfl trivial ?_
        refine s1 44 16 3 rfl rfl rfl rfl rfl rfl (by first | trivial | omega | (simp only [List.length_map, List.length_append, List.length_cons, List.length_nil] at *; omega)) ?_
        refine s1 45 24 4 rfl rfl rfl rfl rfl rfl (by first | trivial | omega | (simp only [List.length_map, List.length_append, List.length_cons, List.length_nil] at *; omega)) ?_
        refine e1 32 rfl ?_
        refine keep [6, 9, 11, 45] rfl ?_
        refine q1 rfl (fun hc6 => ?_) (fun hc6 => ?_)
        · skip
          try simp only [decide_eq_true_eq, decide_eq_false_iff_not, Bool.not_eq_true', Bool.not_eq_false', beq_iff_eq, bne_iff_ne, beq_eq_false_iff_ne, Bool.and_eq_true, Bool.or_eq_true, Bool.and_eq_false_iff, Bool.or_eq_false_iff, ge_iff_le, gt_iff_lt, Int.not_lt, Int.not_le, ne_eq, Decidable.not_not, bne_eq_false_iff_eq] at hc6
          refine W_skip ?_
          refine tn ?_
          refine W_seq ?_
          refine W_block ?_
          refine rd1 rfl ?_
          refine d1 48 32 1 rfl rfl rfl rfl rfl rfl trivial ?_
          refine d1 49 40 2 rfl rfl rfl rfl rfl rfl trivial ?_
          refine d1 50 48 3 rfl rfl rfl rfl rfl rfl (by first | trivial | omega | (simp only [List.length_map, List.length_append, List.length_cons, List.length_nil] at *; omega)) ?_
          refine d1 51 56 4 rfl rfl rfl rfl rfl rfl (by first | trivial | omega | (simp only [List.length_map, List.length_append, List.length_cons, List.length_nil] at *; omega)) ?_
          refine val 51 (rollS ((bk l w l.length).2.getD n default)) rfl (by rfl) ?_
          refine d1 52 64 5 rfl rfl rfl rfl rfl rfl trivial ?_
          refine d1 53 72 6 rfl rfl rfl rfl rfl rfl trivial ?_
          refine d1 54 80 7 rfl rfl rfl rfl rfl rfl (by first | trivial | omega | (simp only [List.length_map, List.length_append, List.length_cons, List.length_nil] at *; omega)) ?_
          refine d1 55 88 8 rfl rfl rfl rfl rfl rfl (by first | trivial | omega | (simp only [List.length_map, List.length_append, List.length_cons, List.length_nil] at *; omega)) ?_
          refine val 55 (rollS ((bk l w l.length).2.getD n default)) rfl (by rfl) ?_
          refine dEq (op := .neq) 56 96 9 rfl rfl rfl rfl rfl rfl rfl rfl rfl (by kernel_rfl) (by kernel_rfl) rfl (.inr ⟨rfl, rfl⟩) ?_
          refine de1 104 rfl (by kernel_rfl) ?_
          refine keep [6, 9, 11, 56] rfl ?_
          refine q1 rfl (fun hc8 => ?_) (fun hc8 => ?_)
          · skip
            exfalso; simp at hc8
          · skip
            try simp only [decide_eq_true_eq, decide_eq_false_iff_not, Bool.not_eq_true', Bool.not_eq_false', beq_iff_eq, bne_iff_ne, beq_eq_false_iff_ne, Bool.and_eq_true, Bool.or_eq_true, Bool.and_eq_false_iff, Bool.or_eq_false_iff, ge_iff_le, gt_iff_lt, Int.not_lt, Int.not_le, ne_eq, Decidable.not_not, bne_eq_false_iff_eq] at hc8
            refine W_skip ?_
            refine bn ?_
            refine tn ?_
            refine r0 ?_
            refine s1 46 104 1 rfl rfl rfl rfl rfl rfl trivial ?_
            refine sA 47 112 2 rfl rfl rfl rfl rfl rfl rfl rfl rfl (by unfold inRange; omega) ?_
            refine s1 11 120 3 rfl rfl rfl rfl rfl rfl trivial ?_
            refine e1 128 rfl ?_
            refine tn ?_
            exact again ((n + 1 : Nat)) [] (show (n + 1) ≤ (bk l w l.length).2.length from (by omega)) (show (bk l w l.length).2.length - (n + 1) < (bk l w l.length).2.length - n from (by omega)) rfl ⟨rfl, rfl, rfl, trivial⟩ trivial
        · skip
          try simp only [decide_eq_true_eq, decide_eq_false_iff_not, Bool.not_eq_true', Bool.not_eq_false', beq_iff_eq, bne_iff_ne, beq_eq_false_iff_ne, Bool.and_eq_true, Bool.or_eq_true, Bool.and_eq_false_iff, Bool.or_eq_false_iff, ge_iff_le, gt_iff_lt, Int.not_lt, Int.not_le, ne_eq, Decidable.not_not, bne_eq_false_iff_eq] at hc6
          refine W_exit ?_
          refine tx ?_
          refine tx ?_
          refine bx ?_
          refine tn ?_
          refine r1 ?_
          refine s1 4 32 1 rfl rfl rfl rfl rfl rfl trivial ?_
          refine e1 40 rfl ?_
          refine keep [4] rfl ?_
          refine W_ret ?_
          exact out1 4 (SV.b true) (π := []) (hout := []) Tryd.results6 rfl rfl rfl rfl trivial rfl

theorem lawRB_any (l : List Smp) (hin : SmpIn l) (w : Int) (hwi : inRange w) : Spec Tryd.prog GC 6 [smpV l, SV.i w] [] (fun r _ => r = SV.b true) := by
  by_cases hE : bucE l w = 0
  · exact lawRB_ok l hin w hwi hE
  · exact lawRB_bad l hin w hwi hE

end Go.Proofs.YtiedndnegmbkiaaDoor.Nice
