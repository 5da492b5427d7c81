/- The codes of package snap, and the law SnapCodes. -/
import Derived.Test.YtghnikahahbleaaDoorCodeMay
namespace Go.Proofs.YtghnikahahbleaaDoor.Nice
open Go
set_option linter.unusedVariables false
set_option linter.unusedSimpArgs false
set_option maxRecDepth 100000
set_option maxHeartbeats 4000000
abbrev st_a : ByteArray := ⟨#[97]⟩
abbrev st_again : ByteArray := ⟨#[97, 103, 97, 105, 110]⟩
abbrev st_b : ByteArray := ⟨#[98]⟩
abbrev st_base : ByteArray := ⟨#[98, 97, 115, 101]⟩
abbrev st_old : ByteArray := ⟨#[111, 108, 100]⟩
abbrev st_part : ByteArray := ⟨#[112, 97, 114, 116]⟩
abbrev st_rest : ByteArray := ⟨#[114, 101, 115, 116]⟩
abbrev st_same : ByteArray := ⟨#[115, 97, 109, 101]⟩
abbrev st_v : ByteArray := ⟨#[118]⟩
abbrev st_wide : ByteArray := ⟨#[119, 105, 100, 101]⟩
theorem may_any (parts : Int) : Spec Tryd.prog GV 17 [SV.i parts] [] (fun r ho => r = SV.b ((decide (1 ≤ parts) && decide (parts ≤ 4))) ∧ ho = []) := by
  refine start 9 0 Tryd.func17 rfl rfl rfl rfl ?_
  refine r1 ?_
  refine s1 2 0 1 rfl rfl rfl rfl rfl rfl trivial ?_
  refine e1 8 rfl ?_
  refine keep [0] rfl ?_
  refine r1 ?_
  refine s1 3 8 1 rfl rfl rfl rfl rfl rfl trivial ?_
  refine s1 4 16 2 rfl rfl rfl rfl rfl rfl (by first | trivial | omega | (simp only [List.length_map, List.length_append, List.length_cons, List.length_nil] at *; omega)) ?_
  refine s1 5 24 3 rfl rfl rfl rfl rfl rfl trivial ?_
  refine ask 5 rfl (fun hg1_5 => ?_) (fun hg1_5 => ?_)
  · skip
    try simp only [decide_eq_true_eq, decide_eq_false_iff_not, Bool.not_eq_true', Bool.not_eq_false', beq_iff_eq, bne_iff_ne, beq_eq_false_iff_ne, Bool.and_eq_true, Bool.or_eq_true, Bool.and_eq_false_iff, Bool.or_eq_false_iff, ge_iff_le, gt_iff_lt, Int.not_lt, Int.not_le, ne_eq, Decidable.not_not, bne_eq_false_iff_eq] at hg1_5
    refine g1 2 true 5 6 4 rfl rfl rfl rfl rfl ?_
    refine s1 6 32 4 rfl rfl rfl rfl rfl rfl trivial ?_
    refine g1 2 true 5 7 5 rfl rfl rfl rfl rfl ?_
    refine s1 7 40 5 rfl rfl rfl rfl rfl rfl (by first | trivial | omega | (simp only [List.length_map, List.length_append, List.length_cons, List.length_nil] at *; omega)) ?_
    refine s1 8 48 6 rfl rfl rfl rfl rfl rfl trivial ?_
    refine s1 2 56 7 rfl rfl rfl rfl rfl rfl trivial ?_
    refine e1 64 rfl ?_
    refine keep [2] rfl ?_
    refine W_ret ?_
    exact out1 2 (SV.b ((decide (1 ≤ parts) && decide (parts ≤ 4)))) (π := []) (hout := []) Tryd.results17 rfl (by show SV.b _ = SV.b _; refine congrArg SV.b (Bool.eq_iff_iff.2 ?_); simp at *; try omega) rfl rfl trivial ⟨rfl, rfl⟩
  · skip
    try simp only [decide_eq_true_eq, decide_eq_false_iff_not, Bool.not_eq_true', Bool.not_eq_false', beq_iff_eq, bne_iff_ne, beq_eq_false_iff_ne, Bool.and_eq_true, Bool.or_eq_true, Bool.and_eq_false_iff, Bool.or_eq_false_iff, ge_iff_le, gt_iff_lt, Int.not_lt, Int.not_le, ne_eq, Decidable.not_not, bne_eq_false_iff_eq] at hg1_5
    refine g0 2 true 5 6 4 rfl rfl rfl rfl rfl rfl ?_
    refine g0 2 true 5 7 5 rfl rfl rfl rfl rfl rfl ?_
    refine s1 8 48 6 rfl rfl rfl rfl rfl rfl trivial ?_
    refine s1 2 56 7 rfl rfl rfl rfl rfl rfl trivial ?_
    refine e1 64 rfl ?_
    refine keep [2] rfl ?_
    refine W_ret ?_
    exact out1 2 (SV.b ((decide (1 ≤ parts) && decide (parts ≤ 4)))) (π := []) (hout := []) Tryd.results17 rfl (by show SV.b _ = SV.b _; refine congrArg SV.b (Bool.eq_iff_iff.2 ?_); simp at *; try omega) rfl rfl trivial ⟨rfl, rfl⟩

def digS : ByteArray := ⟨#[48, 49, 50, 51, 52, 53, 54, 55, 56, 57, 97, 98, 99, 100, 101, 102, 103, 104, 105, 106, 107, 108, 109, 110, 111, 112, 113, 114, 115, 116, 117, 118, 119, 120, 121, 122]⟩
def digit (n : Int) : ByteArray := digS.extract n.toNat (n + 1).toNat
theorem digit_size (n : Int) : (digit n).size ≤ 36 := by
  unfold digit
  rw [ByteArray.size_extract]
  have : digS.size = 36 := rfl
  rw [this]; omega
theorem cat_le {a b : ByteArray} (ha : a.size ≤ 100) (hb : b.size ≤ 36) : a.size + b.size ≤ 9223372036854775807 := by omega

theorem small_any (n : Int) (h0 : 0 ≤ n) (h9 : n < 10) : Spec Tryd.prog GV 39 [SV.i n] [] (fun r ho => r = .d (.val (.string (digit n))) ∧ ho = []) := by
  refine start 15 0 Tryd.func39 rfl rfl rfl rfl ?_
  refine r1 ?_
  refine s1 2 0 1 rfl rfl rfl rfl rfl rfl trivial ?_
  refine e1 8 rfl ?_
  refine keep [0] rfl ?_
  refine W_seq ?_
  refine r1 ?_
  refine s1 3 8 1 rfl rfl rfl rfl rfl rfl trivial ?_
  refine s1 4 16 2 rfl rfl rfl rfl rfl rfl (by first | trivial | omega | (simp only [List.length_map, List.length_append, List.length_cons, List.length_nil] at *; omega)) ?_
  refine e1 24 rfl ?_
  refine keep [0, 4] rfl ?_
  refine q1 rfl (fun hc1 => ?_) (fun hc1 => ?_)
  · skip
    try simp only [decide_eq_true_eq, decide_eq_false_iff_not, Bool.not_eq_true', Bool.not_eq_false', beq_iff_eq, bne_iff_ne, beq_eq_false_iff_ne, Bool.and_eq_true, Bool.or_eq_true, Bool.and_eq_false_iff, Bool.or_eq_false_iff, ge_iff_le, gt_iff_lt, Int.not_lt, Int.not_le, ne_eq, Decidable.not_not, bne_eq_false_iff_eq] at hc1
    refine r1 ?_
    refine s1 5 24 1 rfl rfl rfl rfl rfl rfl trivial ?_
    refine s1 6 32 2 rfl rfl rfl rfl rfl rfl trivial ?_
    refine sA 7 40 3 rfl rfl rfl rfl rfl rfl rfl rfl rfl (by unfold inRange; omega) ?_
    refine s1 8 48 4 rfl rfl rfl rfl rfl rfl (by show 0 ≤ n ∧ n ≤ n + 1 ∧ n + 1 ≤ 36; omega) ?_
    refine s1 2 56 5 rfl rfl rfl rfl rfl rfl trivial ?_
    refine e1 64 rfl ?_
    refine keep [2] rfl ?_
    refine W_ret ?_
    refine tr ?_
    exact out1 2 (.d (.val (.string (digit n)))) (π := []) (hout := []) Tryd.results39 rfl rfl rfl rfl trivial ⟨rfl, rfl⟩
  · skip
    exfalso; simp at hc1; omega

theorem format_any (n : Int) (h0 : 0 ≤ n) (h9 : n < 10) : Spec Tryd.prog GV 38 [SV.i n, SV.i 10] [] (fun r ho => r = .d (.val (.string (digit n))) ∧ ho = []) := by
  refine start 54 0 Tryd.func38 rfl rfl rfl rfl ?_
  refine r1 ?_
  refine s1 4 0 1 rfl rfl rfl rfl rfl rfl trivial ?_
  refine e1 8 rfl ?_
  refine keep [0, 1] rfl ?_
  refine W_seq ?_
  refine r1 ?_
  refine s1 10 8 1 rfl rfl rfl rfl rfl rfl trivial ?_
  refine s1 11 16 2 rfl rfl rfl rfl rfl rfl (by first | trivial | omega | (simp only [List.length_map, List.length_append, List.length_cons, List.length_nil] at *; omega)) ?_
  refine e1 24 rfl ?_
  refine keep [0, 1, 11] rfl ?_
  refine q1 rfl (fun hc1 => ?_) (fun hc1 => ?_)
  · skip
    try simp only [decide_eq_true_eq, decide_eq_false_iff_not, Bool.not_eq_true', Bool.not_eq_false', beq_iff_eq, bne_iff_ne, beq_eq_false_iff_ne, Bool.and_eq_true, Bool.or_eq_true, Bool.and_eq_false_iff, Bool.or_eq_false_iff, ge_iff_le, gt_iff_lt, Int.not_lt, Int.not_le, ne_eq, Decidable.not_not, bne_eq_false_iff_eq] at hc1
    refine W_seq ?_
    refine r1 ?_
    refine s1 12 24 1 rfl rfl rfl rfl rfl rfl trivial ?_
    refine s1 13 32 2 rfl rfl rfl rfl rfl rfl (by first | trivial | omega | (simp only [List.length_map, List.length_append, List.length_cons, List.length_nil] at *; omega)) ?_
    refine s1 14 40 3 rfl rfl rfl rfl rfl rfl trivial ?_
    refine ask 14 rfl (fun hg2_14 => ?_) (fun hg2_14 => ?_)
    · skip
      try simp only [decide_eq_true_eq, decide_eq_false_iff_not, Bool.not_eq_true', Bool.not_eq_false', beq_iff_eq, bne_iff_ne, beq_eq_false_iff_ne, Bool.and_eq_true, Bool.or_eq_true, Bool.and_eq_false_iff, Bool.or_eq_false_iff, ge_iff_le, gt_iff_lt, Int.not_lt, Int.not_le, ne_eq, Decidable.not_not, bne_eq_false_iff_eq] at hg2_14
      refine g1 2 true 14 15 4 rfl rfl rfl rfl rfl ?_
      refine s1 15 48 4 rfl rfl rfl rfl rfl rfl trivial ?_
      refine g1 2 true 14 16 5 rfl rfl rfl rfl rfl ?_
      refine s1 16 56 5 rfl rfl rfl rfl rfl rfl (by first | trivial | omega | (simp only [List.length_map, List.length_append, List.length_cons, List.length_nil] at *; omega)) ?_
      refine s1 17 64 6 rfl rfl rfl rfl rfl rfl trivial ?_
      refine e1 72 rfl ?_
      refine keep [0, 17] rfl ?_
      refine q1 rfl (fun hc2 => ?_) (fun hc2 => ?_)
      · skip
        try simp only [decide_eq_true_eq, decide_eq_false_iff_not, Bool.not_eq_true', Bool.not_eq_false', beq_iff_eq, bne_iff_ne, beq_eq_false_iff_ne, Bool.and_eq_true, Bool.or_eq_true, Bool.and_eq_false_iff, Bool.or_eq_false_iff, ge_iff_le, gt_iff_lt, Int.not_lt, Int.not_le, ne_eq, Decidable.not_not, bne_eq_false_iff_eq] at hc2
        refine r1 ?_
        refine s1 18 72 1 rfl rfl rfl rfl rfl rfl trivial ?_
        refine c1 (small_any n h0 h9) [] [] 19 80 2 rfl rfl rfl rfl rfl rfl rfl rfl Tryd.func39 rfl rfl rfl rfl trivial rfl rfl ?_
        refine s1 4 88 3 rfl rfl rfl rfl rfl rfl trivial ?_
        refine e1 96 rfl ?_
        refine keep [4] rfl ?_
        refine W_ret ?_
        refine tr ?_
        refine tr ?_
        exact out1 4 (.d (.val (.string (digit n)))) (π := []) (hout := []) Tryd.results38 rfl rfl rfl rfl trivial ⟨rfl, rfl⟩
      · skip
        exfalso; simp at hc2; omega
    · skip
      try simp only [decide_eq_true_eq, decide_eq_false_iff_not, Bool.not_eq_true', Bool.not_eq_false', beq_iff_eq, bne_iff_ne, beq_eq_false_iff_ne, Bool.and_eq_true, Bool.or_eq_true, Bool.and_eq_false_iff, Bool.or_eq_false_iff, ge_iff_le, gt_iff_lt, Int.not_lt, Int.not_le, ne_eq, Decidable.not_not, bne_eq_false_iff_eq] at hg2_14
      all_goals (exfalso; omega)
  · skip
    exact absurd hc1 (by decide)

theorem itoa0_any (n : Int) (h0 : 0 ≤ n) (h9 : n < 10) : Spec Tryd.prog GV 37 [SV.i n] [] (fun r ho => r = .d (.val (.string (digit n))) ∧ ho = []) := by
  refine start 5 0 Tryd.func37 rfl rfl rfl rfl ?_
  refine r1 ?_
  refine s1 2 0 1 rfl rfl rfl rfl rfl rfl trivial ?_
  refine e1 8 rfl ?_
  refine keep [0] rfl ?_
  refine r1 ?_
  refine s1 3 8 1 rfl rfl rfl rfl rfl rfl trivial ?_
  refine c1 (format_any n h0 h9) [] [] 4 16 2 rfl rfl rfl rfl rfl rfl rfl rfl Tryd.func38 rfl rfl rfl rfl trivial rfl rfl ?_
  refine s1 2 24 3 rfl rfl rfl rfl rfl rfl trivial ?_
  refine e1 32 rfl ?_
  refine keep [2] rfl ?_
  refine W_ret ?_
  exact out1 2 (.d (.val (.string (digit n)))) (π := []) (hout := []) Tryd.results37 rfl rfl rfl rfl trivial ⟨rfl, rfl⟩

theorem itoa_any (n : Int) (h0 : 0 ≤ n) (h9 : n < 10) : Spec Tryd.prog GV 24 [SV.i n] [] (fun r ho => r = .d (.val (.string (digit n))) ∧ ho = []) := by
  refine start 5 0 Tryd.func24 rfl rfl rfl rfl ?_
  refine r1 ?_
  refine s1 2 0 1 rfl rfl rfl rfl rfl rfl trivial ?_
  refine e1 8 rfl ?_
  refine keep [0] rfl ?_
  refine r1 ?_
  refine s1 3 8 1 rfl rfl rfl rfl rfl rfl trivial ?_
  refine c1 (itoa0_any n h0 h9) [] [] 4 16 2 rfl rfl rfl rfl rfl rfl rfl rfl Tryd.func37 rfl rfl rfl rfl trivial rfl rfl ?_
  refine s1 2 24 3 rfl rfl rfl rfl rfl rfl trivial ?_
  refine e1 32 rfl ?_
  refine keep [2] rfl ?_
  refine W_ret ?_
  exact out1 2 (.d (.val (.string (digit n)))) (π := []) (hout := []) Tryd.results24 rfl rfl rfl rfl trivial ⟨rfl, rfl⟩

theorem name_any (s : ByteArray) (n : Int) (hs : s.size ≤ 100) (h0 : 0 ≤ n) (h9 : n < 10) : Spec Tryd.prog GV 23 [.d (.val (.string s)), SV.i n] [] (fun r ho => r = .d (.val (.string (s ++ digit n))) ∧ ho = []) := by
  refine start 9 0 Tryd.func23 rfl rfl rfl rfl ?_
  refine r1 ?_
  refine s1 4 0 1 rfl rfl rfl rfl rfl rfl trivial ?_
  refine e1 8 rfl ?_
  refine keep [0, 1] rfl ?_
  refine r1 ?_
  refine s1 5 8 1 rfl rfl rfl rfl rfl rfl trivial ?_
  refine s1 6 16 2 rfl rfl rfl rfl rfl rfl trivial ?_
  refine c1 (itoa_any n h0 h9) [] [] 7 24 3 rfl rfl rfl rfl rfl rfl rfl rfl Tryd.func24 rfl rfl rfl rfl trivial rfl rfl ?_
  refine sCat 8 32 4 rfl rfl rfl rfl rfl rfl rfl rfl (cat_le hs (digit_size _)) ?_
  refine s1 4 40 5 rfl rfl rfl rfl rfl rfl trivial ?_
  refine e1 48 rfl ?_
  refine keep [4] rfl ?_
  refine W_ret ?_
  exact out1 4 (.d (.val (.string (s ++ digit n)))) (π := []) (hout := []) Tryd.results23 rfl rfl rfl rfl trivial ⟨rfl, rfl⟩

theorem no_Words (parts : Int) (hr : ¬ (1 ≤ parts ∧ parts ≤ 4)) : Spec Tryd.prog GV 6 [SV.i parts] [] (fun r ho => r = SV.tup [.d .nils, SV.i 2] ∧ ho = []) := by
  refine start 9 0 Tryd.func6 rfl rfl rfl rfl ?_
  refine r1 ?_
  refine s1 2 0 1 rfl rfl rfl rfl rfl rfl trivial ?_
  refine s1 3 8 2 rfl rfl rfl rfl rfl rfl trivial ?_
  refine e1 16 rfl ?_
  refine keep [0] rfl ?_
  refine W_seq ?_
  refine r1 ?_
  refine s1 4 16 1 rfl rfl rfl rfl rfl rfl trivial ?_
  refine c1 (may_any parts) [] [] 5 24 2 rfl rfl rfl rfl rfl rfl rfl rfl Tryd.func17 rfl rfl rfl rfl trivial rfl rfl ?_
  refine s1 6 32 3 rfl rfl rfl rfl rfl rfl trivial ?_
  refine e1 40 rfl ?_
  refine keep [0, 6] rfl ?_
  refine q1 rfl (fun hc1 => ?_) (fun hc1 => ?_)
  · skip
    try simp only [decide_eq_true_eq, decide_eq_false_iff_not, Bool.not_eq_true', Bool.not_eq_false', beq_iff_eq, bne_iff_ne, beq_eq_false_iff_ne, Bool.and_eq_true, Bool.or_eq_true, Bool.and_eq_false_iff, Bool.or_eq_false_iff, ge_iff_le, gt_iff_lt, Int.not_lt, Int.not_le, ne_eq, Decidable.not_not, bne_eq_false_iff_eq] at hc1
    refine r1 ?_
    refine s1 2 40 1 rfl rfl rfl rfl rfl rfl trivial ?_
    refine s1 3 48 2 rfl rfl rfl rfl rfl rfl trivial ?_
    refine e1 56 rfl ?_
    refine keep [2, 3] rfl ?_
    refine W_ret ?_
    refine tr ?_
    exact out2 2 3 (.d .nils) (SV.i 2) (π := []) (hout := []) Tryd.results6 rfl rfl rfl rfl rfl rfl trivial ⟨rfl, rfl⟩
  · skip
    exfalso; simp at hc1; omega

theorem no_Put (parts : Int) (hr : ¬ (1 ≤ parts ∧ parts ≤ 4)) : Spec Tryd.prog GV 7 [SV.i parts] [] (fun r ho => r = SV.tup [.d .nils, SV.i 2] ∧ ho = []) := by
  refine start 20 0 Tryd.func7 rfl rfl rfl rfl ?_
  refine r1 ?_
  refine s1 2 0 1 rfl rfl rfl rfl rfl rfl trivial ?_
  refine s1 3 8 2 rfl rfl rfl rfl rfl rfl trivial ?_
  refine e1 16 rfl ?_
  refine keep [0] rfl ?_
  refine W_seq ?_
  refine r1 ?_
  refine s1 5 16 1 rfl rfl rfl rfl rfl rfl trivial ?_
  refine c1 (may_any parts) [] [] 6 24 2 rfl rfl rfl rfl rfl rfl rfl rfl Tryd.func17 rfl rfl rfl rfl trivial rfl rfl ?_
  refine s1 7 32 3 rfl rfl rfl rfl rfl rfl trivial ?_
  refine e1 40 rfl ?_
  refine keep [7] rfl ?_
  refine q1 rfl (fun hc1 => ?_) (fun hc1 => ?_)
  · skip
    try simp only [decide_eq_true_eq, decide_eq_false_iff_not, Bool.not_eq_true', Bool.not_eq_false', beq_iff_eq, bne_iff_ne, beq_eq_false_iff_ne, Bool.and_eq_true, Bool.or_eq_true, Bool.and_eq_false_iff, Bool.or_eq_false_iff, ge_iff_le, gt_iff_lt, Int.not_lt, Int.not_le, ne_eq, Decidable.not_not, bne_eq_false_iff_eq] at hc1
    refine r1 ?_
    refine s1 2 40 1 rfl rfl rfl rfl rfl rfl trivial ?_
    refine s1 3 48 2 rfl rfl rfl rfl rfl rfl trivial ?_
    refine e1 56 rfl ?_
    refine keep [2, 3] rfl ?_
    refine W_ret ?_
    refine tr ?_
    exact out2 2 3 (.d .nils) (SV.i 2) (π := []) (hout := []) Tryd.results7 rfl rfl rfl rfl rfl rfl trivial ⟨rfl, rfl⟩
  · skip
    exfalso; simp at hc1; omega

theorem no_Scan (parts : Int) (hr : ¬ (1 ≤ parts ∧ parts ≤ 4)) : Spec Tryd.prog GV 8 [SV.i parts] [] (fun r ho => r = SV.tup [.d .nils, SV.i 2] ∧ ho = []) := by
  refine start 53 0 Tryd.func8 rfl rfl rfl rfl ?_
  refine r1 ?_
  refine s1 2 0 1 rfl rfl rfl rfl rfl rfl trivial ?_
  refine s1 3 8 2 rfl rfl rfl rfl rfl rfl trivial ?_
  refine e1 16 rfl ?_
  refine keep [0] rfl ?_
  refine W_seq ?_
  refine r1 ?_
  refine s1 9 16 1 rfl rfl rfl rfl rfl rfl trivial ?_
  refine c1 (may_any parts) [] [] 10 24 2 rfl rfl rfl rfl rfl rfl rfl rfl Tryd.func17 rfl rfl rfl rfl trivial rfl rfl ?_
  refine s1 11 32 3 rfl rfl rfl rfl rfl rfl trivial ?_
  refine e1 40 rfl ?_
  refine keep [0, 11] rfl ?_
  refine q1 rfl (fun hc1 => ?_) (fun hc1 => ?_)
  · skip
    try simp only [decide_eq_true_eq, decide_eq_false_iff_not, Bool.not_eq_true', Bool.not_eq_false', beq_iff_eq, bne_iff_ne, beq_eq_false_iff_ne, Bool.and_eq_true, Bool.or_eq_true, Bool.and_eq_false_iff, Bool.or_eq_false_iff, ge_iff_le, gt_iff_lt, Int.not_lt, Int.not_le, ne_eq, Decidable.not_not, bne_eq_false_iff_eq] at hc1
    refine r1 ?_
    refine s1 2 40 1 rfl rfl rfl rfl rfl rfl trivial ?_
    refine s1 3 48 2 rfl rfl rfl rfl rfl rfl trivial ?_
    refine e1 56 rfl ?_
    refine keep [2, 3] rfl ?_
    refine W_ret ?_
    refine tr ?_
    exact out2 2 3 (.d .nils) (SV.i 2) (π := []) (hout := []) Tryd.results8 rfl rfl rfl rfl rfl rfl trivial ⟨rfl, rfl⟩
  · skip
    exfalso; simp at hc1; omega

theorem yes_Words (parts : Int) (hr : 1 ≤ parts ∧ parts ≤ 4) : Spec Tryd.prog GV 6 [SV.i parts] [] (fun r ho => r = SV.tup [.sl 0 0 parts.toNat, SV.i 0] ∧ ho = [none]) := by
  refine start 9 0 Tryd.func6 rfl rfl rfl rfl ?_
  refine r1 ?_
  refine s1 2 0 1 rfl rfl rfl rfl rfl rfl trivial ?_
  refine s1 3 8 2 rfl rfl rfl rfl rfl rfl trivial ?_
  refine e1 16 rfl ?_
  refine keep [0] rfl ?_
  refine W_seq ?_
  refine r1 ?_
  refine s1 4 16 1 rfl rfl rfl rfl rfl rfl trivial ?_
  refine c1 (may_any parts) [] [] 5 24 2 rfl rfl rfl rfl rfl rfl rfl rfl Tryd.func17 rfl rfl rfl rfl trivial rfl rfl ?_
  refine s1 6 32 3 rfl rfl rfl rfl rfl rfl trivial ?_
  refine e1 40 rfl ?_
  refine keep [0, 6] rfl ?_
  refine q1 rfl (fun hc1 => ?_) (fun hc1 => ?_)
  · skip
    exfalso; simp at hc1; omega
  · skip
    try simp only [decide_eq_true_eq, decide_eq_false_iff_not, Bool.not_eq_true', Bool.not_eq_false', beq_iff_eq, bne_iff_ne, beq_eq_false_iff_ne, Bool.and_eq_true, Bool.or_eq_true, Bool.and_eq_false_iff, Bool.or_eq_false_iff, ge_iff_le, gt_iff_lt, Int.not_lt, Int.not_le, ne_eq, Decidable.not_not, bne_eq_false_iff_eq] at hc1
    refine W_skip ?_
    refine tn ?_
    refine r1 ?_
    refine s1 7 40 1 rfl rfl rfl rfl rfl rfl trivial ?_
    refine s1 8 48 2 rfl rfl rfl rfl rfl rfl (by refine ⟨?_, rfl, ?_, ?_⟩; omega; (show _ * 8 ≤ (140737488355328 : Int); omega); omega) ?_
    refine s1 2 56 3 rfl rfl rfl rfl rfl rfl trivial ?_
    refine s1 3 64 4 rfl rfl rfl rfl rfl rfl trivial ?_
    refine e1 72 rfl ?_
    refine keep [2, 3] rfl ?_
    refine W_ret ?_
    exact out2 2 3 (.sl 0 0 parts.toNat) (SV.i 0) (π := [48]) (hout := [none]) Tryd.results6 rfl rfl rfl rfl rfl rfl trivial ⟨rfl, rfl⟩

def B_Put (parts : Int) : Bld := ((((((((mk [st_part, st_v]).set st_wide 1048576).word 13 st_old st_part 0).doo 7 st_rest st_old st_wide).doo 4 st_old st_old st_rest).doo 3 st_old st_old st_wide).doo 3 st_old st_old st_v).word 14 st_old st_part 0)
theorem yes_Put (parts : Int) (hr : 1 ≤ parts ∧ parts ≤ 4) : Spec Tryd.prog GV 7 [SV.i parts] [] (fun r ho => r = SV.tup [.sl 0 0 (fin (B_Put parts)).length, SV.i 0] ∧ ho = [some (.rows 42 5 (fin (B_Put parts)).length (insF (fin (B_Put parts))))]) := by
  refine start 20 0 Tryd.func7 rfl rfl rfl rfl ?_
  refine r1 ?_
  refine s1 2 0 1 rfl rfl rfl rfl rfl rfl trivial ?_
  refine s1 3 8 2 rfl rfl rfl rfl rfl rfl trivial ?_
  refine e1 16 rfl ?_
  refine keep [0] rfl ?_
  refine W_seq ?_
  refine r1 ?_
  refine s1 5 16 1 rfl rfl rfl rfl rfl rfl trivial ?_
  refine c1 (may_any parts) [] [] 6 24 2 rfl rfl rfl rfl rfl rfl rfl rfl Tryd.func17 rfl rfl rfl rfl trivial rfl rfl ?_
  refine s1 7 32 3 rfl rfl rfl rfl rfl rfl trivial ?_
  refine e1 40 rfl ?_
  refine keep [7] rfl ?_
  refine q1 rfl (fun hc1 => ?_) (fun hc1 => ?_)
  · skip
    exfalso; simp at hc1; omega
  · skip
    try simp only [decide_eq_true_eq, decide_eq_false_iff_not, Bool.not_eq_true', Bool.not_eq_false', beq_iff_eq, bne_iff_ne, beq_eq_false_iff_ne, Bool.and_eq_true, Bool.or_eq_true, Bool.and_eq_false_iff, Bool.or_eq_false_iff, ge_iff_le, gt_iff_lt, Int.not_lt, Int.not_le, ne_eq, Decidable.not_not, bne_eq_false_iff_eq] at hc1
    refine W_skip ?_
    refine tn ?_
    refine r1 ?_
    refine sLit 1 (strsF [st_part, st_v]) 8 40 1 rfl rfl rfl rfl rfl rfl rfl rfl rfl (by intro i c hi hc; obtain rfl : c = 0 := (by omega); match i, hi with | 0, _ => rfl | 1, _ => rfl) ?_
    refine c1 (new_any [st_part, st_v] (by decide)) [] [48, 49, 50, 51, 52] 9 48 2 rfl rfl rfl rfl rfl rfl rfl rfl Tryd.func18 rfl rfl rfl rfl trivial rfl rfl ?_
    have hb1 := ok_mk [st_part, st_v]
    refine c1 (set_any (mk [st_part, st_v]) st_wide 1048576 hb1 (by decide)) [48, 49, 50, 51, 52] [48, 49, 50, 51, 52, 56] 10 56 3 rfl rfl rfl rfl rfl rfl rfl rfl Tryd.func19 rfl rfl rfl rfl ⟨rfl, rfl, rfl, rfl, rfl, trivial⟩ rfl rfl ?_
    have hb2 := ok_set st_wide 1048576 hb1
    refine c1 (word_any ((mk [st_part, st_v]).set st_wide 1048576) 13 st_old st_part 0 hb2 (by decide)) [48, 56, 50, 51, 52] [48, 56, 50, 51, 52, 64] 11 64 4 rfl rfl rfl rfl rfl rfl rfl rfl Tryd.func20 rfl rfl rfl rfl ⟨rfl, rfl, rfl, rfl, rfl, trivial⟩ rfl rfl ?_
    have hb3 := ok_word 13 st_old st_part 0 hb2
    refine s1 4 72 5 rfl rfl rfl rfl rfl rfl trivial ?_
    refine e1 80 rfl ?_
    refine keep [4] rfl ?_
    refine r1 ?_
    refine s1 12 80 1 rfl rfl rfl rfl rfl rfl trivial ?_
    refine c1 (doo_any (((mk [st_part, st_v]).set st_wide 1048576).word 13 st_old st_part 0) 7 st_rest st_old st_wide hb3 (by decide)) [48, 64, 50, 51, 52] [48, 64, 50, 51, 52, 88] 13 88 2 rfl rfl rfl rfl rfl rfl rfl rfl Tryd.func21 rfl rfl rfl rfl ⟨rfl, rfl, rfl, rfl, rfl, trivial⟩ rfl rfl ?_
    have hb4 := ok_doo 7 st_rest st_old st_wide hb3
    refine c1 (doo_any ((((mk [st_part, st_v]).set st_wide 1048576).word 13 st_old st_part 0).doo 7 st_rest st_old st_wide) 4 st_old st_old st_rest hb4 (by decide)) [48, 88, 50, 51, 52] [48, 88, 50, 51, 52, 96] 14 96 3 rfl rfl rfl rfl rfl rfl rfl rfl Tryd.func21 rfl rfl rfl rfl ⟨rfl, rfl, rfl, rfl, rfl, trivial⟩ rfl rfl ?_
    have hb5 := ok_doo 4 st_old st_old st_rest hb4
    refine c1 (doo_any (((((mk [st_part, st_v]).set st_wide 1048576).word 13 st_old st_part 0).doo 7 st_rest st_old st_wide).doo 4 st_old st_old st_rest) 3 st_old st_old st_wide hb5 (by decide)) [48, 96, 50, 51, 52] [48, 96, 50, 51, 52, 104] 15 104 4 rfl rfl rfl rfl rfl rfl rfl rfl Tryd.func21 rfl rfl rfl rfl ⟨rfl, rfl, rfl, rfl, rfl, trivial⟩ rfl rfl ?_
    have hb6 := ok_doo 3 st_old st_old st_wide hb5
    refine c1 (doo_any ((((((mk [st_part, st_v]).set st_wide 1048576).word 13 st_old st_part 0).doo 7 st_rest st_old st_wide).doo 4 st_old st_old st_rest).doo 3 st_old st_old st_wide) 3 st_old st_old st_v hb6 (by decide)) [48, 104, 50, 51, 52] [48, 104, 50, 51, 52, 112] 16 112 5 rfl rfl rfl rfl rfl rfl rfl rfl Tryd.func21 rfl rfl rfl rfl ⟨rfl, rfl, rfl, rfl, rfl, trivial⟩ rfl rfl ?_
    have hb7 := ok_doo 3 st_old st_old st_v hb6
    refine e1 120 rfl ?_
    refine keep [4] rfl ?_
    refine r1 ?_
    refine s1 17 120 1 rfl rfl rfl rfl rfl rfl trivial ?_
    refine c1 (word_any (((((((mk [st_part, st_v]).set st_wide 1048576).word 13 st_old st_part 0).doo 7 st_rest st_old st_wide).doo 4 st_old st_old st_rest).doo 3 st_old st_old st_wide).doo 3 st_old st_old st_v) 14 st_old st_part 0 hb7 (by decide)) [48, 112, 50, 51, 52] [48, 112, 50, 51, 52, 128] 18 128 2 rfl rfl rfl rfl rfl rfl rfl rfl Tryd.func20 rfl rfl rfl rfl ⟨rfl, rfl, rfl, rfl, rfl, trivial⟩ rfl rfl ?_
    have hb8 := ok_word 14 st_old st_part 0 hb7
    refine c1 (ops_any ((((((((mk [st_part, st_v]).set st_wide 1048576).word 13 st_old st_part 0).doo 7 st_rest st_old st_wide).doo 4 st_old st_old st_rest).doo 3 st_old st_old st_wide).doo 3 st_old st_old st_v).word 14 st_old st_part 0) hb8 (by decide)) [48, 128, 50, 51, 52] [48, 128, 50, 51, 52] 19 136 3 rfl rfl rfl rfl rfl rfl rfl rfl Tryd.func22 rfl rfl rfl rfl ⟨rfl, rfl, rfl, rfl, rfl, trivial⟩ rfl rfl ?_
    refine s1 2 144 4 rfl rfl rfl rfl rfl rfl trivial ?_
    refine s1 3 152 5 rfl rfl rfl rfl rfl rfl trivial ?_
    refine e1 160 rfl ?_
    refine keep [2, 3] rfl ?_
    refine W_ret ?_
    exact out2 2 3 (.sl 0 0 (fin (B_Put parts)).length) (SV.i 0) (π := [128]) (hout := [some (.rows 42 5 (fin (B_Put parts)).length (insF (fin (B_Put parts))))]) Tryd.results7 rfl rfl rfl rfl rfl rfl ⟨rfl, trivial⟩ ⟨rfl, rfl⟩

theorem ok_Put {parts : Int} (h : 1 ≤ parts ∧ parts ≤ 4) : mayB (fin (B_Put parts)) = true ∧ 0 < (fin (B_Put parts)).length ∧ (fin (B_Put parts)).length ≤ 1000 := by
  obtain rfl | rfl | rfl | rfl : parts = 1 ∨ parts = 2 ∨ parts = 3 ∨ parts = 4 := (by omega)
  all_goals decide +kernel

def L_scan1 (parts : Int) : Nat → Bld
  | 0 => (((mk []).set st_wide 1048576).mark st_again)
  | n + 1 => ((L_scan1 parts n).word 13 (st_a ++ digit (n : Int)) st_base (n : Int))

theorem okL_scan1 (parts : Int) : ∀ n : Nat, (L_scan1 parts n).ok (1 + 1 * n)
  | 0 => ok_up (ok_mark st_again (ok_set st_wide 1048576 (ok_mk []))) (by omega)
  | n + 1 => ok_up (ok_word 13 (st_a ++ digit (n : Int)) st_base (n : Int) ((okL_scan1 parts n))) (by omega)

def L_scan2 (parts : Int) : Nat → Bld
  | 0 => (L_scan1 parts parts.toNat)
  | n + 1 => ((((L_scan2 parts n).word 13 st_b st_base (n : Int)).doo 8 st_same (st_a ++ digit (n : Int)) st_b).iff 12 st_same st_again)

theorem okL_scan2 (parts : Int) : ∀ n : Nat, (L_scan2 parts n).ok (1 + 1 * parts.toNat + 0 + 3 * n)
  | 0 => ok_up (okL_scan1 parts parts.toNat) (by omega)
  | n + 1 => ok_up (ok_iff 12 st_same st_again (ok_doo 8 st_same (st_a ++ digit (n : Int)) st_b (ok_word 13 st_b st_base (n : Int) ((okL_scan2 parts n))))) (by omega)

def L_scan3 (parts : Int) : Nat → Bld
  | 0 => (L_scan2 parts parts.toNat)
  | n + 1 => (((L_scan3 parts n).doo 7 st_v (st_a ++ digit (n : Int)) st_wide).tell st_v)

theorem okL_scan3 (parts : Int) : ∀ n : Nat, (L_scan3 parts n).ok (1 + 1 * parts.toNat + 0 + 3 * parts.toNat + 0 + 2 * n)
  | 0 => ok_up (okL_scan2 parts parts.toNat) (by omega)
  | n + 1 => ok_up (ok_tell st_v (ok_doo 7 st_v (st_a ++ digit (n : Int)) st_wide ((okL_scan3 parts n)))) (by omega)

def B_Scan (parts : Int) : Bld := (L_scan3 parts parts.toNat)
theorem yes_Scan (parts : Int) (hr : 1 ≤ parts ∧ parts ≤ 4) : Spec Tryd.prog GV 8 [SV.i parts] [] (fun r ho => r = SV.tup [.sl 0 0 (fin (B_Scan parts)).length, SV.i 0] ∧ ho = [some (.rows 42 5 (fin (B_Scan parts)).length (insF (fin (B_Scan parts))))]) := by
  refine start 53 0 Tryd.func8 rfl rfl rfl rfl ?_
  refine r1 ?_
  refine s1 2 0 1 rfl rfl rfl rfl rfl rfl trivial ?_
  refine s1 3 8 2 rfl rfl rfl rfl rfl rfl trivial ?_
  refine e1 16 rfl ?_
  refine keep [0] rfl ?_
  refine W_seq ?_
  refine r1 ?_
  refine s1 9 16 1 rfl rfl rfl rfl rfl rfl trivial ?_
  refine c1 (may_any parts) [] [] 10 24 2 rfl rfl rfl rfl rfl rfl rfl rfl Tryd.func17 rfl rfl rfl rfl trivial rfl rfl ?_
  refine s1 11 32 3 rfl rfl rfl rfl rfl rfl trivial ?_
  refine e1 40 rfl ?_
  refine keep [0, 11] rfl ?_
  refine q1 rfl (fun hc1 => ?_) (fun hc1 => ?_)
  · skip
    exfalso; simp at hc1; omega
  · skip
    try simp only [decide_eq_true_eq, decide_eq_false_iff_not] at hc1
    refine W_skip ?_
    refine tn ?_
    refine r1 ?_
    refine s1 4 40 1 rfl rfl rfl rfl rfl rfl trivial ?_
    refine e1 48 rfl ?_
    refine keep [0, 4] rfl ?_
    refine r1 ?_
    refine c1 (nil_any) [] [48, 49, 50, 51, 52] 12 48 1 rfl rfl rfl rfl rfl rfl rfl rfl Tryd.func18 rfl rfl rfl rfl trivial rfl rfl ?_
    have hb1 := ok_mk []
    refine c1 (set_any (mk []) st_wide 1048576 hb1 (by omega)) [48, 49, 50, 51, 52] [48, 49, 50, 51, 52, 56] 13 56 2 rfl rfl rfl rfl rfl rfl rfl rfl Tryd.func19 rfl rfl rfl rfl ⟨rfl, rfl, rfl, rfl, rfl, trivial⟩ rfl rfl ?_
    have hb2 := ok_set st_wide 1048576 hb1
    refine c1 (mark_any ((mk []).set st_wide 1048576) st_again hb2 (by omega)) [48, 56, 50, 51, 52] [48, 56, 50, 51, 52] 14 64 3 rfl rfl rfl rfl rfl rfl rfl rfl Tryd.func25 rfl rfl rfl rfl ⟨rfl, rfl, rfl, rfl, rfl, trivial⟩ rfl rfl ?_
    have hb3 := ok_mark st_again hb2
    refine s1 5 72 4 rfl rfl rfl rfl rfl rfl trivial ?_
    refine e1 80 rfl ?_
    refine keep [0, 4, 5] rfl ?_
    refine W_seq ?_
    refine r1 ?_
    refine s1 15 80 1 rfl rfl rfl rfl rfl rfl trivial ?_
    refine s1 16 88 2 rfl rfl rfl rfl rfl rfl trivial ?_
    refine e1 96 rfl ?_
    refine keep [0, 4, 5, 15, 16] rfl ?_
    refine W_block ?_
    refine loop (α := Nat) 5 (fun n => [(0, SV.i parts), (4, .fn 23 []), (5, .ptr 0 0 0), (15, SV.i parts), (16, SV.i n)]) (fun n => [some (.cells 50 4 [.sl 1 0 (L_scan1 parts n).ops.length, .map 2, .sl 3 0 (L_scan1 parts n).gotos.length, .map 4]), some (.rows 42 5 (L_scan1 parts n).ops.length (insF (L_scan1 parts n).ops)), some (.map (mapE (L_scan1 parts n).places)), some (.rows 53 2 (L_scan1 parts n).gotos.length (gotoF (L_scan1 parts n).gotos)), some (.map (mapE (L_scan1 parts n).regs))]) (fun n => n ≤ parts.toNat) (fun n => parts.toNat - n) (0) [48, 56, 50, 51, 52] (fun _ => rfl) (Nat.zero_le _) rfl ⟨rfl, rfl, rfl, rfl, rfl, trivial⟩ ⟨rfl, rfl, rfl, rfl, rfl, trivial⟩ (fun n hx => ?_)
    have hb4 := okL_scan1 parts n
    refine r1 ?_
    refine s1 17 5 1 rfl rfl rfl rfl rfl rfl (by first | trivial | omega | (simp only [List.length_map, List.length_append, List.length_cons, List.length_nil] at *; omega)) ?_
    refine e1 13 rfl ?_
    refine keep [0, 4, 5, 15, 16, 17] rfl ?_
    refine W_seq ?_
    refine q1 rfl (fun hc6 => ?_) (fun hc6 => ?_)
    · skip
      try simp only [decide_eq_true_eq, decide_eq_false_iff_not] at hc6
      refine W_skip ?_
      refine tn ?_
      refine W_seq ?_
      refine W_block ?_
      refine r1 ?_
      refine s1 18 13 1 rfl rfl rfl rfl rfl rfl trivial ?_
      refine s1 6 21 2 rfl rfl rfl rfl rfl rfl trivial ?_
      refine e1 29 rfl ?_
      refine keep [0, 4, 5, 6, 15, 16] rfl ?_
      refine r0 ?_
      refine s1 19 29 1 rfl rfl rfl rfl rfl rfl trivial ?_
      refine s1 20 37 2 rfl rfl rfl rfl rfl rfl trivial ?_
      refine s1 21 45 3 rfl rfl rfl rfl rfl rfl trivial ?_
      refine c1 (name_any st_a (n : Int) (by decide) (by omega) (by omega)) [] [] 22 53 4 rfl rfl rfl rfl rfl rfl rfl rfl Tryd.func23 rfl rfl rfl rfl trivial rfl rfl ?_
      refine s1 23 61 5 rfl rfl rfl rfl rfl rfl trivial ?_
      refine c1 (word_any (L_scan1 parts n) 13 (st_a ++ digit (n : Int)) st_base (n : Int) hb4 (by omega)) [0, 1, 2, 3, 4] [0, 1, 2, 3, 4, 69] 24 69 6 rfl rfl rfl rfl rfl rfl rfl rfl Tryd.func20 rfl rfl rfl rfl ⟨rfl, rfl, rfl, rfl, rfl, trivial⟩ rfl rfl ?_
      have hb5 := ok_word 13 (st_a ++ digit (n : Int)) st_base (n : Int) hb4
      refine e1 77 rfl ?_
      refine bn ?_
      refine tn ?_
      refine r0 ?_
      refine sA 25 77 1 rfl rfl rfl rfl rfl rfl rfl rfl rfl (by unfold inRange; omega) ?_
      refine s1 16 85 2 rfl rfl rfl rfl rfl rfl trivial ?_
      refine e1 93 rfl ?_
      refine tn ?_
      exact again (n + 1) [0, 69, 2, 3, 4] (by omega) (by omega) rfl ⟨rfl, rfl, rfl, rfl, rfl, trivial⟩ ⟨rfl, rfl, rfl, rfl, rfl, trivial⟩
    · skip
      try simp only [decide_eq_true_eq, decide_eq_false_iff_not] at hc6
      obtain rfl : n = parts.toNat := (by omega)
      have hb6 := okL_scan1 parts parts.toNat
      refine W_exit ?_
      refine tx ?_
      refine tx ?_
      refine bx ?_
      refine tn ?_
      refine W_seq ?_
      refine r1 ?_
      refine s1 26 13 1 rfl rfl rfl rfl rfl rfl trivial ?_
      refine s1 27 21 2 rfl rfl rfl rfl rfl rfl trivial ?_
      refine e1 29 rfl ?_
      refine keep [0, 4, 5, 26, 27] rfl ?_
      refine W_block ?_
      refine loop (α := Nat) 5 (fun n => [(0, SV.i parts), (4, .fn 23 []), (5, .ptr 0 0 0), (26, SV.i parts), (27, SV.i n)]) (fun n => [some (.cells 50 4 [.sl 1 0 (L_scan2 parts n).ops.length, .map 2, .sl 3 0 (L_scan2 parts n).gotos.length, .map 4]), some (.rows 42 5 (L_scan2 parts n).ops.length (insF (L_scan2 parts n).ops)), some (.map (mapE (L_scan2 parts n).places)), some (.rows 53 2 (L_scan2 parts n).gotos.length (gotoF (L_scan2 parts n).gotos)), some (.map (mapE (L_scan2 parts n).regs))]) (fun n => n ≤ parts.toNat) (fun n => parts.toNat - n) (0) [0, 1, 2, 3, 4] (fun _ => rfl) (Nat.zero_le _) rfl ⟨rfl, rfl, rfl, rfl, rfl, trivial⟩ ⟨rfl, rfl, rfl, rfl, rfl, trivial⟩ (fun n hx => ?_)
      have hb7 := okL_scan2 parts n
      refine r1 ?_
      refine s1 28 5 1 rfl rfl rfl rfl rfl rfl (by first | trivial | omega | (simp only [List.length_map, List.length_append, List.length_cons, List.length_nil] at *; omega)) ?_
      refine e1 13 rfl ?_
      refine keep [0, 4, 5, 26, 27, 28] rfl ?_
      refine W_seq ?_
      refine q1 rfl (fun hc11 => ?_) (fun hc11 => ?_)
      · skip
        try simp only [decide_eq_true_eq, decide_eq_false_iff_not] at hc11
        refine W_skip ?_
        refine tn ?_
        refine W_seq ?_
        refine W_block ?_
        refine r1 ?_
        refine s1 29 13 1 rfl rfl rfl rfl rfl rfl trivial ?_
        refine s1 7 21 2 rfl rfl rfl rfl rfl rfl trivial ?_
        refine e1 29 rfl ?_
        refine keep [0, 4, 5, 7, 26, 27] rfl ?_
        refine r0 ?_
        refine s1 30 29 1 rfl rfl rfl rfl rfl rfl trivial ?_
        refine s1 31 37 2 rfl rfl rfl rfl rfl rfl trivial ?_
        refine c1 (word_any (L_scan2 parts n) 13 st_b st_base (n : Int) hb7 (by omega)) [0, 1, 2, 3, 4] [0, 1, 2, 3, 4, 45] 32 45 3 rfl rfl rfl rfl rfl rfl rfl rfl Tryd.func20 rfl rfl rfl rfl ⟨rfl, rfl, rfl, rfl, rfl, trivial⟩ rfl rfl ?_
        have hb8 := ok_word 13 st_b st_base (n : Int) hb7
        refine s1 33 53 4 rfl rfl rfl rfl rfl rfl trivial ?_
        refine s1 34 61 5 rfl rfl rfl rfl rfl rfl trivial ?_
        refine c1 (name_any st_a (n : Int) (by decide) (by omega) (by omega)) [] [] 35 69 6 rfl rfl rfl rfl rfl rfl rfl rfl Tryd.func23 rfl rfl rfl rfl trivial rfl rfl ?_
        refine c1 (doo_any ((L_scan2 parts n).word 13 st_b st_base (n : Int)) 8 st_same (st_a ++ digit (n : Int)) st_b hb8 (by omega)) [0, 45, 2, 3, 4] [0, 45, 2, 3, 4, 77] 36 77 7 rfl rfl rfl rfl rfl rfl rfl rfl Tryd.func21 rfl rfl rfl rfl ⟨rfl, rfl, rfl, rfl, rfl, trivial⟩ rfl rfl ?_
        have hb9 := ok_doo 8 st_same (st_a ++ digit (n : Int)) st_b hb8
        refine c1 (iff_any (((L_scan2 parts n).word 13 st_b st_base (n : Int)).doo 8 st_same (st_a ++ digit (n : Int)) st_b) 12 st_same st_again hb9 (by omega)) [0, 77, 2, 3, 4] [0, 77, 2, 3, 4, 85, 86] 37 85 8 rfl rfl rfl rfl rfl rfl rfl rfl Tryd.func26 rfl rfl rfl rfl ⟨rfl, rfl, rfl, rfl, rfl, trivial⟩ rfl rfl ?_
        have hb10 := ok_iff 12 st_same st_again hb9
        refine e1 93 rfl ?_
        refine bn ?_
        refine tn ?_
        refine r0 ?_
        refine sA 38 93 1 rfl rfl rfl rfl rfl rfl rfl rfl rfl (by unfold inRange; omega) ?_
        refine s1 27 101 2 rfl rfl rfl rfl rfl rfl trivial ?_
        refine e1 109 rfl ?_
        refine tn ?_
        exact again (n + 1) [0, 86, 2, 85, 4] (by omega) (by omega) rfl ⟨rfl, rfl, rfl, rfl, rfl, trivial⟩ ⟨rfl, rfl, rfl, rfl, rfl, trivial⟩
      · skip
        try simp only [decide_eq_true_eq, decide_eq_false_iff_not] at hc11
        obtain rfl : n = parts.toNat := (by omega)
        have hb11 := okL_scan2 parts parts.toNat
        refine W_exit ?_
        refine tx ?_
        refine tx ?_
        refine bx ?_
        refine tn ?_
        refine W_seq ?_
        refine r1 ?_
        refine s1 39 13 1 rfl rfl rfl rfl rfl rfl trivial ?_
        refine s1 40 21 2 rfl rfl rfl rfl rfl rfl trivial ?_
        refine e1 29 rfl ?_
        refine keep [4, 5, 39, 40] rfl ?_
        refine W_block ?_
        refine loop (α := Nat) 5 (fun n => [(4, .fn 23 []), (5, .ptr 0 0 0), (39, SV.i parts), (40, SV.i n)]) (fun n => [some (.cells 50 4 [.sl 1 0 (L_scan3 parts n).ops.length, .map 2, .sl 3 0 (L_scan3 parts n).gotos.length, .map 4]), some (.rows 42 5 (L_scan3 parts n).ops.length (insF (L_scan3 parts n).ops)), some (.map (mapE (L_scan3 parts n).places)), some (.rows 53 2 (L_scan3 parts n).gotos.length (gotoF (L_scan3 parts n).gotos)), some (.map (mapE (L_scan3 parts n).regs))]) (fun n => n ≤ parts.toNat) (fun n => parts.toNat - n) (0) [0, 1, 2, 3, 4] (fun _ => rfl) (Nat.zero_le _) rfl ⟨rfl, rfl, rfl, rfl, trivial⟩ ⟨rfl, rfl, rfl, rfl, rfl, trivial⟩ (fun n hx => ?_)
        have hb12 := okL_scan3 parts n
        refine r1 ?_
        refine s1 41 5 1 rfl rfl rfl rfl rfl rfl (by first | trivial | omega | (simp only [List.length_map, List.length_append, List.length_cons, List.length_nil] at *; omega)) ?_
        refine e1 13 rfl ?_
        refine keep [4, 5, 39, 40, 41] rfl ?_
        refine W_seq ?_
        refine q1 rfl (fun hc16 => ?_) (fun hc16 => ?_)
        · skip
          try simp only [decide_eq_true_eq, decide_eq_false_iff_not] at hc16
          refine W_skip ?_
          refine tn ?_
          refine W_seq ?_
          refine W_block ?_
          refine r1 ?_
          refine s1 42 13 1 rfl rfl rfl rfl rfl rfl trivial ?_
          refine s1 8 21 2 rfl rfl rfl rfl rfl rfl trivial ?_
          refine e1 29 rfl ?_
          refine keep [4, 5, 8, 39, 40] rfl ?_
          refine r0 ?_
          refine s1 43 29 1 rfl rfl rfl rfl rfl rfl trivial ?_
          refine s1 44 37 2 rfl rfl rfl rfl rfl rfl trivial ?_
          refine s1 45 45 3 rfl rfl rfl rfl rfl rfl trivial ?_
          refine c1 (name_any st_a (n : Int) (by decide) (by omega) (by omega)) [] [] 46 53 4 rfl rfl rfl rfl rfl rfl rfl rfl Tryd.func23 rfl rfl rfl rfl trivial rfl rfl ?_
          refine c1 (doo_any (L_scan3 parts n) 7 st_v (st_a ++ digit (n : Int)) st_wide hb12 (by omega)) [0, 1, 2, 3, 4] [0, 1, 2, 3, 4, 61] 47 61 5 rfl rfl rfl rfl rfl rfl rfl rfl Tryd.func21 rfl rfl rfl rfl ⟨rfl, rfl, rfl, rfl, rfl, trivial⟩ rfl rfl ?_
          have hb13 := ok_doo 7 st_v (st_a ++ digit (n : Int)) st_wide hb12
          refine sLit 1 (strsF [st_v]) 48 69 6 rfl rfl rfl rfl rfl rfl rfl rfl rfl (by intro i c hi hc; obtain rfl : i = 0 := (by omega); obtain rfl : c = 0 := (by omega); rfl) ?_
          refine c1 (tell_any ((L_scan3 parts n).doo 7 st_v (st_a ++ digit (n : Int)) st_wide) st_v hb13 (by omega)) [0, 61, 2, 3, 4] [0, 61, 2, 3, 4, 77] 49 77 7 rfl rfl rfl rfl rfl rfl rfl rfl Tryd.func27 rfl rfl rfl rfl ⟨rfl, rfl, rfl, rfl, rfl, trivial⟩ rfl rfl ?_
          have hb14 := ok_tell st_v hb13
          refine e1 85 rfl ?_
          refine bn ?_
          refine tn ?_
          refine r0 ?_
          refine sA 50 85 1 rfl rfl rfl rfl rfl rfl rfl rfl rfl (by unfold inRange; omega) ?_
          refine s1 40 93 2 rfl rfl rfl rfl rfl rfl trivial ?_
          refine e1 101 rfl ?_
          refine tn ?_
          exact again (n + 1) [0, 77, 2, 3, 4] (by omega) (by omega) rfl ⟨rfl, rfl, rfl, rfl, trivial⟩ ⟨rfl, rfl, rfl, rfl, rfl, trivial⟩
        · skip
          try simp only [decide_eq_true_eq, decide_eq_false_iff_not] at hc16
          obtain rfl : n = parts.toNat := (by omega)
          have hb15 := okL_scan3 parts parts.toNat
          refine W_exit ?_
          refine tx ?_
          refine tx ?_
          refine bx ?_
          refine tn ?_
          refine r1 ?_
          refine s1 51 13 1 rfl rfl rfl rfl rfl rfl trivial ?_
          refine c1 (ops_any (L_scan3 parts parts.toNat) hb15 (by omega)) [0, 1, 2, 3, 4] [0, 1, 2, 3, 4] 52 21 2 rfl rfl rfl rfl rfl rfl rfl rfl Tryd.func22 rfl rfl rfl rfl ⟨rfl, rfl, rfl, rfl, rfl, trivial⟩ rfl rfl ?_
          refine s1 2 29 3 rfl rfl rfl rfl rfl rfl trivial ?_
          refine s1 3 37 4 rfl rfl rfl rfl rfl rfl trivial ?_
          refine e1 45 rfl ?_
          refine keep [2, 3] rfl ?_
          refine W_ret ?_
          exact out2 2 3 (.sl 0 0 (fin (B_Scan parts)).length) (SV.i 0) (π := [1]) (hout := [some (.rows 42 5 (fin (B_Scan parts)).length (insF (fin (B_Scan parts))))]) Tryd.results8 rfl rfl rfl rfl rfl rfl ⟨rfl, trivial⟩ ⟨rfl, rfl⟩

theorem ok_Scan {parts : Int} (h : 1 ≤ parts ∧ parts ≤ 4) : mayB (fin (B_Scan parts)) = true ∧ 0 < (fin (B_Scan parts)).length ∧ (fin (B_Scan parts)).length ≤ 1000 := by
  obtain rfl | rfl | rfl | rfl : parts = 1 ∨ parts = 2 ∨ parts = 3 ∨ parts = 4 := (by omega)
  all_goals decide +kernel

theorem law_yes (parts : Int) (hr : 1 ≤ parts ∧ parts ≤ 4) : Spec Tryd.prog GV 3 [SV.i parts] [] (fun r _ => r = SV.b true) := by
  refine start 93 0 Tryd.func3 rfl rfl rfl rfl ?_
  refine r1 ?_
  refine s1 2 0 1 rfl rfl rfl rfl rfl rfl trivial ?_
  refine e1 8 rfl ?_
  refine keep [0] rfl ?_
  refine r1 ?_
  refine s1 10 8 1 rfl rfl rfl rfl rfl rfl trivial ?_
  refine c1 (yes_Words parts hr) [] [16] 11 16 2 rfl rfl rfl rfl rfl rfl rfl rfl Tryd.func6 rfl rfl rfl rfl trivial rfl rfl ?_
  refine s1 9 24 3 rfl rfl rfl rfl rfl rfl trivial ?_
  refine s1 12 32 4 rfl rfl rfl rfl rfl rfl trivial ?_
  refine s1 13 40 5 rfl rfl rfl rfl rfl rfl trivial ?_
  refine s1 3 48 6 rfl rfl rfl rfl rfl rfl trivial ?_
  refine s1 4 56 7 rfl rfl rfl rfl rfl rfl trivial ?_
  refine e1 64 rfl ?_
  refine keep [0, 3, 4] rfl ?_
  refine r1 ?_
  refine s1 15 64 1 rfl rfl rfl rfl rfl rfl trivial ?_
  refine c1 (yes_Put parts hr) [] [72] 16 72 2 rfl rfl rfl rfl rfl rfl rfl rfl Tryd.func7 rfl rfl rfl rfl trivial rfl rfl ?_
  refine s1 14 80 3 rfl rfl rfl rfl rfl rfl trivial ?_
  refine s1 17 88 4 rfl rfl rfl rfl rfl rfl trivial ?_
  refine s1 18 96 5 rfl rfl rfl rfl rfl rfl trivial ?_
  refine s1 5 104 6 rfl rfl rfl rfl rfl rfl trivial ?_
  refine s1 6 112 7 rfl rfl rfl rfl rfl rfl trivial ?_
  refine e1 120 rfl ?_
  refine keep [0, 3, 4, 5, 6] rfl ?_
  refine r1 ?_
  refine s1 20 120 1 rfl rfl rfl rfl rfl rfl trivial ?_
  refine c1 (yes_Scan parts hr) [] [128] 21 128 2 rfl rfl rfl rfl rfl rfl rfl rfl Tryd.func8 rfl rfl rfl rfl trivial rfl rfl ?_
  refine s1 19 136 3 rfl rfl rfl rfl rfl rfl trivial ?_
  refine s1 22 144 4 rfl rfl rfl rfl rfl rfl trivial ?_
  refine s1 23 152 5 rfl rfl rfl rfl rfl rfl trivial ?_
  refine s1 7 160 6 rfl rfl rfl rfl rfl rfl trivial ?_
  refine s1 8 168 7 rfl rfl rfl rfl rfl rfl trivial ?_
  refine e1 176 rfl ?_
  refine keep [0, 3, 4, 5, 6, 7, 8] rfl ?_
  refine W_seq ?_
  refine r1 ?_
  refine s1 24 176 1 rfl rfl rfl rfl rfl rfl trivial ?_
  refine s1 25 184 2 rfl rfl rfl rfl rfl rfl (by first | trivial | omega | (simp only [List.length_map, List.length_append, List.length_cons, List.length_nil] at *; omega)) ?_
  refine s1 26 192 3 rfl rfl rfl rfl rfl rfl trivial ?_
  refine ask 26 rfl (fun hg4_26 => ?_) (fun hg4_26 => ?_)
  · skip
    try simp only [decide_eq_true_eq, decide_eq_false_iff_not, Bool.not_eq_true', Bool.not_eq_false', beq_iff_eq, bne_iff_ne, beq_eq_false_iff_ne, Bool.and_eq_true, Bool.or_eq_true, Bool.and_eq_false_iff, Bool.or_eq_false_iff, ge_iff_le, gt_iff_lt, Int.not_lt, Int.not_le, ne_eq, Decidable.not_not, bne_eq_false_iff_eq] at hg4_26
    refine g0 2 false 26 27 4 rfl rfl rfl rfl rfl rfl ?_
    refine g0 2 false 26 28 5 rfl rfl rfl rfl rfl rfl ?_
    refine s1 29 216 6 rfl rfl rfl rfl rfl rfl trivial ?_
    refine e1 224 rfl ?_
    refine keep [3, 4, 5, 6, 7, 8, 29] rfl ?_
    refine q1 rfl (fun hc4 => ?_) (fun hc4 => ?_)
    · skip
      exfalso; simp at hc4; omega
    · skip
      exact absurd hc4 (by decide)
  · skip
    try simp only [decide_eq_true_eq, decide_eq_false_iff_not, Bool.not_eq_true', Bool.not_eq_false', beq_iff_eq, bne_iff_ne, beq_eq_false_iff_ne, Bool.and_eq_true, Bool.or_eq_true, Bool.and_eq_false_iff, Bool.or_eq_false_iff, ge_iff_le, gt_iff_lt, Int.not_lt, Int.not_le, ne_eq, Decidable.not_not, bne_eq_false_iff_eq] at hg4_26
    refine g1 2 false 26 27 4 rfl rfl rfl rfl rfl ?_
    refine s1 27 200 4 rfl rfl rfl rfl rfl rfl trivial ?_
    refine g1 2 false 26 28 5 rfl rfl rfl rfl rfl ?_
    refine s1 28 208 5 rfl rfl rfl rfl rfl rfl (by first | trivial | omega | (simp only [List.length_map, List.length_append, List.length_cons, List.length_nil] at *; omega)) ?_
    refine s1 29 216 6 rfl rfl rfl rfl rfl rfl trivial ?_
    refine e1 224 rfl ?_
    refine keep [3, 4, 5, 6, 7, 8, 29] rfl ?_
    refine q1 rfl (fun hc4 => ?_) (fun hc4 => ?_)
    · skip
      exfalso; simp at hc4; omega
    · skip
      try simp only [decide_eq_true_eq, decide_eq_false_iff_not, Bool.not_eq_true', Bool.not_eq_false', beq_iff_eq, bne_iff_ne, beq_eq_false_iff_ne, Bool.and_eq_true, Bool.or_eq_true, Bool.and_eq_false_iff, Bool.or_eq_false_iff, ge_iff_le, gt_iff_lt, Int.not_lt, Int.not_le, ne_eq, Decidable.not_not, bne_eq_false_iff_eq] at hc4
      refine W_skip ?_
      refine tn ?_
      refine freeze 5 72 (fin (B_Put parts)).length rfl rfl (Nat.le_refl _) ?_
      refine freeze 7 128 (fin (B_Scan parts)).length rfl rfl (Nat.le_refl _) ?_
      have ho0 := ok_Put hr
      have ho1 := ok_Scan hr
      refine r1 ?_
      refine s1 55 224 1 rfl rfl rfl rfl rfl rfl trivial ?_
      refine s1 56 232 2 rfl rfl rfl rfl rfl rfl (by first | trivial | omega | (simp only [List.length_map, List.length_append, List.length_cons, List.length_nil] at *; omega)) ?_
      refine s1 57 240 3 rfl rfl rfl rfl rfl rfl trivial ?_
      refine ask 57 rfl (fun hg6_57 => ?_) (fun hg6_57 => ?_)
      · skip
        try simp only [decide_eq_true_eq, decide_eq_false_iff_not, Bool.not_eq_true', Bool.not_eq_false', beq_iff_eq, bne_iff_ne, beq_eq_false_iff_ne, Bool.and_eq_true, Bool.or_eq_true, Bool.and_eq_false_iff, Bool.or_eq_false_iff, ge_iff_le, gt_iff_lt, Int.not_lt, Int.not_le, ne_eq, Decidable.not_not, bne_eq_false_iff_eq] at hg6_57
        refine g1 2 true 57 58 4 rfl rfl rfl rfl rfl ?_
        refine s1 58 248 4 rfl rfl rfl rfl rfl rfl trivial ?_
        refine g1 2 true 57 59 5 rfl rfl rfl rfl rfl ?_
        refine s1 59 256 5 rfl rfl rfl rfl rfl rfl (by first | trivial | omega | (simp only [List.length_map, List.length_append, List.length_cons, List.length_nil] at *; omega)) ?_
        refine s1 60 264 6 rfl rfl rfl rfl rfl rfl trivial ?_
        refine s1 61 272 7 rfl rfl rfl rfl rfl rfl trivial ?_
        refine ask 61 rfl (fun hg6_61 => ?_) (fun hg6_61 => ?_)
        · skip
          try simp only [decide_eq_true_eq, decide_eq_false_iff_not, Bool.not_eq_true', Bool.not_eq_false', beq_iff_eq, bne_iff_ne, beq_eq_false_iff_ne, Bool.and_eq_true, Bool.or_eq_true, Bool.and_eq_false_iff, Bool.or_eq_false_iff, ge_iff_le, gt_iff_lt, Int.not_lt, Int.not_le, ne_eq, Decidable.not_not, bne_eq_false_iff_eq] at hg6_61
          refine g1 6 true 61 62 8 rfl rfl rfl rfl rfl ?_
          refine s1 62 280 8 rfl rfl rfl rfl rfl rfl trivial ?_
          refine g1 6 true 61 63 9 rfl rfl rfl rfl rfl ?_
          refine s1 63 288 9 rfl rfl rfl rfl rfl rfl (by first | trivial | omega | (simp only [List.length_map, List.length_append, List.length_cons, List.length_nil] at *; omega)) ?_
          refine s1 64 296 10 rfl rfl rfl rfl rfl rfl trivial ?_
          refine s1 65 304 11 rfl rfl rfl rfl rfl rfl trivial ?_
          refine ask 65 rfl (fun hg6_65 => ?_) (fun hg6_65 => ?_)
          · skip
            try simp only [decide_eq_true_eq, decide_eq_false_iff_not, Bool.not_eq_true', Bool.not_eq_false', beq_iff_eq, bne_iff_ne, beq_eq_false_iff_ne, Bool.and_eq_true, Bool.or_eq_true, Bool.and_eq_false_iff, Bool.or_eq_false_iff, ge_iff_le, gt_iff_lt, Int.not_lt, Int.not_le, ne_eq, Decidable.not_not, bne_eq_false_iff_eq] at hg6_65
            refine g1 10 true 65 66 12 rfl rfl rfl rfl rfl ?_
            refine s1 66 312 12 rfl rfl rfl rfl rfl rfl trivial ?_
            refine g1 10 true 65 67 13 rfl rfl rfl rfl rfl ?_
            refine s1 67 320 13 rfl rfl rfl rfl rfl rfl (by first | trivial | omega | (simp only [List.length_map, List.length_append, List.length_cons, List.length_nil] at *; omega)) ?_
            refine g1 10 true 65 68 14 rfl rfl rfl rfl rfl ?_
            refine s1 68 328 14 rfl rfl rfl rfl rfl rfl (by first | trivial | omega | (simp only [List.length_map, List.length_append, List.length_cons, List.length_nil] at *; omega)) ?_
            refine s1 69 336 15 rfl rfl rfl rfl rfl rfl trivial ?_
            refine s1 70 344 16 rfl rfl rfl rfl rfl rfl trivial ?_
            refine ask 70 rfl (fun hg6_70 => ?_) (fun hg6_70 => ?_)
            · skip
              try simp only [decide_eq_true_eq, decide_eq_false_iff_not, Bool.not_eq_true', Bool.not_eq_false', beq_iff_eq, bne_iff_ne, beq_eq_false_iff_ne, Bool.and_eq_true, Bool.or_eq_true, Bool.and_eq_false_iff, Bool.or_eq_false_iff, ge_iff_le, gt_iff_lt, Int.not_lt, Int.not_le, ne_eq, Decidable.not_not, bne_eq_false_iff_eq] at hg6_70
              refine g1 15 true 70 71 17 rfl rfl rfl rfl rfl ?_
              refine s1 71 352 17 rfl rfl rfl rfl rfl rfl trivial ?_
              refine g1 15 true 70 72 18 rfl rfl rfl rfl rfl ?_
              refine s1 72 360 18 rfl rfl rfl rfl rfl rfl (by first | trivial | omega | (simp only [List.length_map, List.length_append, List.length_cons, List.length_nil] at *; omega)) ?_
              refine g1 15 true 70 73 19 rfl rfl rfl rfl rfl ?_
              refine s1 73 368 19 rfl rfl rfl rfl rfl rfl (by first | trivial | omega | (simp only [List.length_map, List.length_append, List.length_cons, List.length_nil] at *; omega)) ?_
              refine s1 74 376 20 rfl rfl rfl rfl rfl rfl trivial ?_
              refine s1 75 384 21 rfl rfl rfl rfl rfl rfl trivial ?_
              refine ask 75 rfl (fun hg6_75 => ?_) (fun hg6_75 => ?_)
              · skip
                try simp only [decide_eq_true_eq, decide_eq_false_iff_not, Bool.not_eq_true', Bool.not_eq_false', beq_iff_eq, bne_iff_ne, beq_eq_false_iff_ne, Bool.and_eq_true, Bool.or_eq_true, Bool.and_eq_false_iff, Bool.or_eq_false_iff, ge_iff_le, gt_iff_lt, Int.not_lt, Int.not_le, ne_eq, Decidable.not_not, bne_eq_false_iff_eq] at hg6_75
                refine g1 20 true 75 76 22 rfl rfl rfl rfl rfl ?_
                refine s1 76 392 22 rfl rfl rfl rfl rfl rfl trivial ?_
                refine g1 20 true 75 77 23 rfl rfl rfl rfl rfl ?_
                refine s1 77 400 23 rfl rfl rfl rfl rfl rfl (by first | trivial | omega | (simp only [List.length_map, List.length_append, List.length_cons, List.length_nil] at *; omega)) ?_
                refine g1 20 true 75 78 24 rfl rfl rfl rfl rfl ?_
                refine s1 78 408 24 rfl rfl rfl rfl rfl rfl (by first | trivial | omega | (simp only [List.length_map, List.length_append, List.length_cons, List.length_nil] at *; omega)) ?_
                refine s1 79 416 25 rfl rfl rfl rfl rfl rfl trivial ?_
                refine s1 80 424 26 rfl rfl rfl rfl rfl rfl trivial ?_
                refine ask 80 rfl (fun hg6_80 => ?_) (fun hg6_80 => ?_)
                · skip
                  try simp only [decide_eq_true_eq, decide_eq_false_iff_not, Bool.not_eq_true', Bool.not_eq_false', beq_iff_eq, bne_iff_ne, beq_eq_false_iff_ne, Bool.and_eq_true, Bool.or_eq_true, Bool.and_eq_false_iff, Bool.or_eq_false_iff, ge_iff_le, gt_iff_lt, Int.not_lt, Int.not_le, ne_eq, Decidable.not_not, bne_eq_false_iff_eq] at hg6_80
                  refine g1 25 true 80 81 27 rfl rfl rfl rfl rfl ?_
                  refine s1 81 432 27 rfl rfl rfl rfl rfl rfl trivial ?_
                  refine g1 25 true 80 82 28 rfl rfl rfl rfl rfl ?_
                  refine s1 82 440 28 rfl rfl rfl rfl rfl rfl (by first | trivial | omega | (simp only [List.length_map, List.length_append, List.length_cons, List.length_nil] at *; omega)) ?_
                  refine g1 25 true 80 83 29 rfl rfl rfl rfl rfl ?_
                  refine s1 83 448 29 rfl rfl rfl rfl rfl rfl (by first | trivial | omega | (simp only [List.length_map, List.length_append, List.length_cons, List.length_nil] at *; omega)) ?_
                  refine s1 84 456 30 rfl rfl rfl rfl rfl rfl trivial ?_
                  refine s1 85 464 31 rfl rfl rfl rfl rfl rfl trivial ?_
                  refine ask 85 rfl (fun hg6_85 => ?_) (fun hg6_85 => ?_)
                  · skip
                    try simp only [decide_eq_true_eq, decide_eq_false_iff_not, Bool.not_eq_true', Bool.not_eq_false', beq_iff_eq, bne_iff_ne, beq_eq_false_iff_ne, Bool.and_eq_true, Bool.or_eq_true, Bool.and_eq_false_iff, Bool.or_eq_false_iff, ge_iff_le, gt_iff_lt, Int.not_lt, Int.not_le, ne_eq, Decidable.not_not, bne_eq_false_iff_eq] at hg6_85
                    refine g1 30 true 85 86 32 rfl rfl rfl rfl rfl ?_
                    refine s1 86 472 32 rfl rfl rfl rfl rfl rfl trivial ?_
                    refine g1 30 true 85 87 33 rfl rfl rfl rfl rfl ?_
                    refine c1 (codeMay_any (fin (B_Put parts)) (Nat.le_trans (ok_Put hr).2.2 (by decide))) [] [] 87 480 33 rfl rfl rfl rfl rfl rfl rfl rfl Tryd.func9 rfl rfl rfl rfl trivial rfl rfl ?_
                    refine val 87 (SV.b true) rfl (by rw [(ok_Put hr).1]) ?_
                    refine s1 88 488 34 rfl rfl rfl rfl rfl rfl trivial ?_
                    refine s1 89 496 35 rfl rfl rfl rfl rfl rfl trivial ?_
                    refine ask 89 rfl (fun hg6_89 => ?_) (fun hg6_89 => ?_)
                    · skip
                      try simp only [decide_eq_true_eq, decide_eq_false_iff_not, Bool.not_eq_true', Bool.not_eq_false', beq_iff_eq, bne_iff_ne, beq_eq_false_iff_ne, Bool.and_eq_true, Bool.or_eq_true, Bool.and_eq_false_iff, Bool.or_eq_false_iff, ge_iff_le, gt_iff_lt, Int.not_lt, Int.not_le, ne_eq, Decidable.not_not, bne_eq_false_iff_eq] at hg6_89
                      refine g1 34 true 89 90 36 rfl rfl rfl rfl rfl ?_
                      refine s1 90 504 36 rfl rfl rfl rfl rfl rfl trivial ?_
                      refine g1 34 true 89 91 37 rfl rfl rfl rfl rfl ?_
                      refine c1 (codeMay_any (fin (B_Scan parts)) (Nat.le_trans (ok_Scan hr).2.2 (by decide))) [] [] 91 512 37 rfl rfl rfl rfl rfl rfl rfl rfl Tryd.func9 rfl rfl rfl rfl trivial rfl rfl ?_
                      refine val 91 (SV.b true) rfl (by rw [(ok_Scan hr).1]) ?_
                      refine s1 92 520 38 rfl rfl rfl rfl rfl rfl trivial ?_
                      refine s1 2 528 39 rfl rfl rfl rfl rfl rfl trivial ?_
                      refine e1 536 rfl ?_
                      refine keep [2] rfl ?_
                      refine W_ret ?_
                      exact out1 2 (SV.b true) (π := []) (hout := []) Tryd.results3 rfl (by first | rfl | (simp; done) | (simp [*]; done)) rfl rfl trivial rfl
                    · skip
                      try simp only [decide_eq_true_eq, decide_eq_false_iff_not, Bool.not_eq_true', Bool.not_eq_false', beq_iff_eq, bne_iff_ne, beq_eq_false_iff_ne, Bool.and_eq_true, Bool.or_eq_true, Bool.and_eq_false_iff, Bool.or_eq_false_iff, ge_iff_le, gt_iff_lt, Int.not_lt, Int.not_le, ne_eq, Decidable.not_not, bne_eq_false_iff_eq] at hg6_89
                      all_goals (exfalso; first | (simp at hg6_89; done) | (simp at hg6_89; omega) | (simp_all; omega) | omega)
                  · skip
                    try simp only [decide_eq_true_eq, decide_eq_false_iff_not, Bool.not_eq_true', Bool.not_eq_false', beq_iff_eq, bne_iff_ne, beq_eq_false_iff_ne, Bool.and_eq_true, Bool.or_eq_true, Bool.and_eq_false_iff, Bool.or_eq_false_iff, ge_iff_le, gt_iff_lt, Int.not_lt, Int.not_le, ne_eq, Decidable.not_not, bne_eq_false_iff_eq] at hg6_85
                    all_goals (exfalso; first | (simp at hg6_85; done) | (simp at hg6_85; omega) | (simp_all; omega) | omega)
                · skip
                  try simp only [decide_eq_true_eq, decide_eq_false_iff_not, Bool.not_eq_true', Bool.not_eq_false', beq_iff_eq, bne_iff_ne, beq_eq_false_iff_ne, Bool.and_eq_true, Bool.or_eq_true, Bool.and_eq_false_iff, Bool.or_eq_false_iff, ge_iff_le, gt_iff_lt, Int.not_lt, Int.not_le, ne_eq, Decidable.not_not, bne_eq_false_iff_eq] at hg6_80
                  all_goals (exfalso; first | (simp at hg6_80; done) | (simp at hg6_80; omega) | (simp_all; omega) | omega)
              · skip
                try simp only [decide_eq_true_eq, decide_eq_false_iff_not, Bool.not_eq_true', Bool.not_eq_false', beq_iff_eq, bne_iff_ne, beq_eq_false_iff_ne, Bool.and_eq_true, Bool.or_eq_true, Bool.and_eq_false_iff, Bool.or_eq_false_iff, ge_iff_le, gt_iff_lt, Int.not_lt, Int.not_le, ne_eq, Decidable.not_not, bne_eq_false_iff_eq] at hg6_75
                all_goals (exfalso; first | (simp at hg6_75; done) | (simp at hg6_75; omega) | (simp_all; omega) | omega)
            · skip
              try simp only [decide_eq_true_eq, decide_eq_false_iff_not, Bool.not_eq_true', Bool.not_eq_false', beq_iff_eq, bne_iff_ne, beq_eq_false_iff_ne, Bool.and_eq_true, Bool.or_eq_true, Bool.and_eq_false_iff, Bool.or_eq_false_iff, ge_iff_le, gt_iff_lt, Int.not_lt, Int.not_le, ne_eq, Decidable.not_not, bne_eq_false_iff_eq] at hg6_70
              all_goals (exfalso; first | (simp at hg6_70; done) | (simp at hg6_70; omega) | (simp_all; omega) | omega)
          · skip
            try simp only [decide_eq_true_eq, decide_eq_false_iff_not, Bool.not_eq_true', Bool.not_eq_false', beq_iff_eq, bne_iff_ne, beq_eq_false_iff_ne, Bool.and_eq_true, Bool.or_eq_true, Bool.and_eq_false_iff, Bool.or_eq_false_iff, ge_iff_le, gt_iff_lt, Int.not_lt, Int.not_le, ne_eq, Decidable.not_not, bne_eq_false_iff_eq] at hg6_65
            all_goals (exfalso; first | (simp at hg6_65; done) | (simp at hg6_65; omega) | (simp_all; omega) | omega)
        · skip
          try simp only [decide_eq_true_eq, decide_eq_false_iff_not, Bool.not_eq_true', Bool.not_eq_false', beq_iff_eq, bne_iff_ne, beq_eq_false_iff_ne, Bool.and_eq_true, Bool.or_eq_true, Bool.and_eq_false_iff, Bool.or_eq_false_iff, ge_iff_le, gt_iff_lt, Int.not_lt, Int.not_le, ne_eq, Decidable.not_not, bne_eq_false_iff_eq] at hg6_61
          all_goals (exfalso; first | (simp at hg6_61; done) | (simp at hg6_61; omega) | (simp_all; omega) | omega)
      · skip
        try simp only [decide_eq_true_eq, decide_eq_false_iff_not, Bool.not_eq_true', Bool.not_eq_false', beq_iff_eq, bne_iff_ne, beq_eq_false_iff_ne, Bool.and_eq_true, Bool.or_eq_true, Bool.and_eq_false_iff, Bool.or_eq_false_iff, ge_iff_le, gt_iff_lt, Int.not_lt, Int.not_le, ne_eq, Decidable.not_not, bne_eq_false_iff_eq] at hg6_57
        all_goals (exfalso; first | (simp at hg6_57; done) | (simp at hg6_57; omega) | (simp_all; omega) | omega)

theorem law_no (parts : Int) (hr : ¬ (1 ≤ parts ∧ parts ≤ 4)) : Spec Tryd.prog GV 3 [SV.i parts] [] (fun r _ => r = SV.b true) := by
  refine start 93 0 Tryd.func3 rfl rfl rfl rfl ?_
  refine r1 ?_
  refine s1 2 0 1 rfl rfl rfl rfl rfl rfl trivial ?_
  refine e1 8 rfl ?_
  refine keep [0] rfl ?_
  refine r1 ?_
  refine s1 10 8 1 rfl rfl rfl rfl rfl rfl trivial ?_
  refine c1 (no_Words parts hr) [] [] 11 16 2 rfl rfl rfl rfl rfl rfl rfl rfl Tryd.func6 rfl rfl rfl rfl trivial rfl rfl ?_
  refine s1 9 24 3 rfl rfl rfl rfl rfl rfl trivial ?_
  refine s1 12 32 4 rfl rfl rfl rfl rfl rfl trivial ?_
  refine s1 13 40 5 rfl rfl rfl rfl rfl rfl trivial ?_
  refine s1 3 48 6 rfl rfl rfl rfl rfl rfl trivial ?_
  refine s1 4 56 7 rfl rfl rfl rfl rfl rfl trivial ?_
  refine e1 64 rfl ?_
  refine keep [0, 3, 4] rfl ?_
  refine r1 ?_
  refine s1 15 64 1 rfl rfl rfl rfl rfl rfl trivial ?_
  refine c1 (no_Put parts hr) [] [] 16 72 2 rfl rfl rfl rfl rfl rfl rfl rfl Tryd.func7 rfl rfl rfl rfl trivial rfl rfl ?_
  refine s1 14 80 3 rfl rfl rfl rfl rfl rfl trivial ?_
  refine s1 17 88 4 rfl rfl rfl rfl rfl rfl trivial ?_
  refine s1 18 96 5 rfl rfl rfl rfl rfl rfl trivial ?_
  refine s1 5 104 6 rfl rfl rfl rfl rfl rfl trivial ?_
  refine s1 6 112 7 rfl rfl rfl rfl rfl rfl trivial ?_
  refine e1 120 rfl ?_
  refine keep [0, 3, 4, 5, 6] rfl ?_
  refine r1 ?_
  refine s1 20 120 1 rfl rfl rfl rfl rfl rfl trivial ?_
  refine c1 (no_Scan parts hr) [] [] 21 128 2 rfl rfl rfl rfl rfl rfl rfl rfl Tryd.func8 rfl rfl rfl rfl trivial rfl rfl ?_
  refine s1 19 136 3 rfl rfl rfl rfl rfl rfl trivial ?_
  refine s1 22 144 4 rfl rfl rfl rfl rfl rfl trivial ?_
  refine s1 23 152 5 rfl rfl rfl rfl rfl rfl trivial ?_
  refine s1 7 160 6 rfl rfl rfl rfl rfl rfl trivial ?_
  refine s1 8 168 7 rfl rfl rfl rfl rfl rfl trivial ?_
  refine e1 176 rfl ?_
  refine keep [0, 3, 4, 5, 6, 7, 8] rfl ?_
  refine W_seq ?_
  refine r1 ?_
  refine s1 24 176 1 rfl rfl rfl rfl rfl rfl trivial ?_
  refine s1 25 184 2 rfl rfl rfl rfl rfl rfl (by first | trivial | omega | (simp only [List.length_map, List.length_append, List.length_cons, List.length_nil] at *; omega)) ?_
  refine s1 26 192 3 rfl rfl rfl rfl rfl rfl trivial ?_
  refine ask 26 rfl (fun hg4_26 => ?_) (fun hg4_26 => ?_)
  · skip
    try simp only [decide_eq_true_eq, decide_eq_false_iff_not, Bool.not_eq_true', Bool.not_eq_false', beq_iff_eq, bne_iff_ne, beq_eq_false_iff_ne, Bool.and_eq_true, Bool.or_eq_true, Bool.and_eq_false_iff, Bool.or_eq_false_iff, ge_iff_le, gt_iff_lt, Int.not_lt, Int.not_le, ne_eq, Decidable.not_not, bne_eq_false_iff_eq] at hg4_26
    refine g0 2 false 26 27 4 rfl rfl rfl rfl rfl rfl ?_
    refine g0 2 false 26 28 5 rfl rfl rfl rfl rfl rfl ?_
    refine s1 29 216 6 rfl rfl rfl rfl rfl rfl trivial ?_
    refine e1 224 rfl ?_
    refine keep [3, 4, 5, 6, 7, 8, 29] rfl ?_
    refine q1 rfl (fun hc4 => ?_) (fun hc4 => ?_)
    · skip
      try simp only [decide_eq_true_eq, decide_eq_false_iff_not, Bool.not_eq_true', Bool.not_eq_false', beq_iff_eq, bne_iff_ne, beq_eq_false_iff_ne, Bool.and_eq_true, Bool.or_eq_true, Bool.and_eq_false_iff, Bool.or_eq_false_iff, ge_iff_le, gt_iff_lt, Int.not_lt, Int.not_le, ne_eq, Decidable.not_not, bne_eq_false_iff_eq] at hc4
      refine r1 ?_
      refine s1 30 224 1 rfl rfl rfl rfl rfl rfl trivial ?_
      refine s1 31 232 2 rfl rfl rfl rfl rfl rfl (by first | trivial | omega | (simp only [List.length_map, List.length_append, List.length_cons, List.length_nil] at *; omega)) ?_
      refine s1 32 240 3 rfl rfl rfl rfl rfl rfl (by first | trivial | omega | (simp only [List.length_map, List.length_append, List.length_cons, List.length_nil] at *; omega)) ?_
      refine s1 33 248 4 rfl rfl rfl rfl rfl rfl trivial ?_
      refine ask 33 rfl (fun hg5_33 => ?_) (fun hg5_33 => ?_)
      · skip
        try simp only [decide_eq_true_eq, decide_eq_false_iff_not, Bool.not_eq_true', Bool.not_eq_false', beq_iff_eq, bne_iff_ne, beq_eq_false_iff_ne, Bool.and_eq_true, Bool.or_eq_true, Bool.and_eq_false_iff, Bool.or_eq_false_iff, ge_iff_le, gt_iff_lt, Int.not_lt, Int.not_le, ne_eq, Decidable.not_not, bne_eq_false_iff_eq] at hg5_33
        refine g1 3 true 33 34 5 rfl rfl rfl rfl rfl ?_
        refine s1 34 256 5 rfl rfl rfl rfl rfl rfl trivial ?_
        refine g1 3 true 33 35 6 rfl rfl rfl rfl rfl ?_
        refine s1 35 264 6 rfl rfl rfl rfl rfl rfl (by first | trivial | omega | (simp only [List.length_map, List.length_append, List.length_cons, List.length_nil] at *; omega)) ?_
        refine g1 3 true 33 36 7 rfl rfl rfl rfl rfl ?_
        refine s1 36 272 7 rfl rfl rfl rfl rfl rfl (by first | trivial | omega | (simp only [List.length_map, List.length_append, List.length_cons, List.length_nil] at *; omega)) ?_
        refine s1 37 280 8 rfl rfl rfl rfl rfl rfl trivial ?_
        refine s1 38 288 9 rfl rfl rfl rfl rfl rfl trivial ?_
        refine ask 38 rfl (fun hg5_38 => ?_) (fun hg5_38 => ?_)
        · skip
          try simp only [decide_eq_true_eq, decide_eq_false_iff_not, Bool.not_eq_true', Bool.not_eq_false', beq_iff_eq, bne_iff_ne, beq_eq_false_iff_ne, Bool.and_eq_true, Bool.or_eq_true, Bool.and_eq_false_iff, Bool.or_eq_false_iff, ge_iff_le, gt_iff_lt, Int.not_lt, Int.not_le, ne_eq, Decidable.not_not, bne_eq_false_iff_eq] at hg5_38
          refine g1 8 true 38 39 10 rfl rfl rfl rfl rfl ?_
          refine s1 39 296 10 rfl rfl rfl rfl rfl rfl trivial ?_
          refine g1 8 true 38 40 11 rfl rfl rfl rfl rfl ?_
          refine s1 40 304 11 rfl rfl rfl rfl rfl rfl (by first | trivial | omega | (simp only [List.length_map, List.length_append, List.length_cons, List.length_nil] at *; omega)) ?_
          refine g1 8 true 38 41 12 rfl rfl rfl rfl rfl ?_
          refine s1 41 312 12 rfl rfl rfl rfl rfl rfl (by first | trivial | omega | (simp only [List.length_map, List.length_append, List.length_cons, List.length_nil] at *; omega)) ?_
          refine s1 42 320 13 rfl rfl rfl rfl rfl rfl trivial ?_
          refine s1 43 328 14 rfl rfl rfl rfl rfl rfl trivial ?_
          refine ask 43 rfl (fun hg5_43 => ?_) (fun hg5_43 => ?_)
          · skip
            try simp only [decide_eq_true_eq, decide_eq_false_iff_not, Bool.not_eq_true', Bool.not_eq_false', beq_iff_eq, bne_iff_ne, beq_eq_false_iff_ne, Bool.and_eq_true, Bool.or_eq_true, Bool.and_eq_false_iff, Bool.or_eq_false_iff, ge_iff_le, gt_iff_lt, Int.not_lt, Int.not_le, ne_eq, Decidable.not_not, bne_eq_false_iff_eq] at hg5_43
            refine g1 13 true 43 44 15 rfl rfl rfl rfl rfl ?_
            refine s1 44 336 15 rfl rfl rfl rfl rfl rfl trivial ?_
            refine g1 13 true 43 45 16 rfl rfl rfl rfl rfl ?_
            refine s1 45 344 16 rfl rfl rfl rfl rfl rfl (by first | trivial | omega | (simp only [List.length_map, List.length_append, List.length_cons, List.length_nil] at *; omega)) ?_
            refine s1 46 352 17 rfl rfl rfl rfl rfl rfl trivial ?_
            refine s1 47 360 18 rfl rfl rfl rfl rfl rfl trivial ?_
            refine ask 47 rfl (fun hg5_47 => ?_) (fun hg5_47 => ?_)
            · skip
              try simp only [decide_eq_true_eq, decide_eq_false_iff_not, Bool.not_eq_true', Bool.not_eq_false', beq_iff_eq, bne_iff_ne, beq_eq_false_iff_ne, Bool.and_eq_true, Bool.or_eq_true, Bool.and_eq_false_iff, Bool.or_eq_false_iff, ge_iff_le, gt_iff_lt, Int.not_lt, Int.not_le, ne_eq, Decidable.not_not, bne_eq_false_iff_eq] at hg5_47
              refine g1 17 true 47 48 19 rfl rfl rfl rfl rfl ?_
              refine s1 48 368 19 rfl rfl rfl rfl rfl rfl trivial ?_
              refine g1 17 true 47 49 20 rfl rfl rfl rfl rfl ?_
              refine s1 49 376 20 rfl rfl rfl rfl rfl rfl (by first | trivial | omega | (simp only [List.length_map, List.length_append, List.length_cons, List.length_nil] at *; omega)) ?_
              refine s1 50 384 21 rfl rfl rfl rfl rfl rfl trivial ?_
              refine s1 51 392 22 rfl rfl rfl rfl rfl rfl trivial ?_
              refine ask 51 rfl (fun hg5_51 => ?_) (fun hg5_51 => ?_)
              · skip
                try simp only [decide_eq_true_eq, decide_eq_false_iff_not, Bool.not_eq_true', Bool.not_eq_false', beq_iff_eq, bne_iff_ne, beq_eq_false_iff_ne, Bool.and_eq_true, Bool.or_eq_true, Bool.and_eq_false_iff, Bool.or_eq_false_iff, ge_iff_le, gt_iff_lt, Int.not_lt, Int.not_le, ne_eq, Decidable.not_not, bne_eq_false_iff_eq] at hg5_51
                refine g1 21 true 51 52 23 rfl rfl rfl rfl rfl ?_
                refine s1 52 400 23 rfl rfl rfl rfl rfl rfl trivial ?_
                refine g1 21 true 51 53 24 rfl rfl rfl rfl rfl ?_
                refine s1 53 408 24 rfl rfl rfl rfl rfl rfl (by first | trivial | omega | (simp only [List.length_map, List.length_append, List.length_cons, List.length_nil] at *; omega)) ?_
                refine s1 54 416 25 rfl rfl rfl rfl rfl rfl trivial ?_
                refine s1 2 424 26 rfl rfl rfl rfl rfl rfl trivial ?_
                refine e1 432 rfl ?_
                refine keep [2] rfl ?_
                refine W_ret ?_
                refine tr ?_
                exact out1 2 (SV.b true) (π := []) (hout := []) Tryd.results3 rfl (by first | rfl | (simp; done) | (simp [*]; done)) rfl rfl trivial rfl
              · skip
                try simp only [decide_eq_true_eq, decide_eq_false_iff_not, Bool.not_eq_true', Bool.not_eq_false', beq_iff_eq, bne_iff_ne, beq_eq_false_iff_ne, Bool.and_eq_true, Bool.or_eq_true, Bool.and_eq_false_iff, Bool.or_eq_false_iff, ge_iff_le, gt_iff_lt, Int.not_lt, Int.not_le, ne_eq, Decidable.not_not, bne_eq_false_iff_eq] at hg5_51
                all_goals (exfalso; first | (simp at hg5_51; done) | (simp at hg5_51; omega) | (simp_all; omega) | omega)
            · skip
              try simp only [decide_eq_true_eq, decide_eq_false_iff_not, Bool.not_eq_true', Bool.not_eq_false', beq_iff_eq, bne_iff_ne, beq_eq_false_iff_ne, Bool.and_eq_true, Bool.or_eq_true, Bool.and_eq_false_iff, Bool.or_eq_false_iff, ge_iff_le, gt_iff_lt, Int.not_lt, Int.not_le, ne_eq, Decidable.not_not, bne_eq_false_iff_eq] at hg5_47
              all_goals (exfalso; first | (simp at hg5_47; done) | (simp at hg5_47; omega) | (simp_all; omega) | omega)
          · skip
            try simp only [decide_eq_true_eq, decide_eq_false_iff_not, Bool.not_eq_true', Bool.not_eq_false', beq_iff_eq, bne_iff_ne, beq_eq_false_iff_ne, Bool.and_eq_true, Bool.or_eq_true, Bool.and_eq_false_iff, Bool.or_eq_false_iff, ge_iff_le, gt_iff_lt, Int.not_lt, Int.not_le, ne_eq, Decidable.not_not, bne_eq_false_iff_eq] at hg5_43
            all_goals (exfalso; first | (simp at hg5_43; done) | (simp at hg5_43; omega) | (simp_all; omega) | omega)
        · skip
          try simp only [decide_eq_true_eq, decide_eq_false_iff_not, Bool.not_eq_true', Bool.not_eq_false', beq_iff_eq, bne_iff_ne, beq_eq_false_iff_ne, Bool.and_eq_true, Bool.or_eq_true, Bool.and_eq_false_iff, Bool.or_eq_false_iff, ge_iff_le, gt_iff_lt, Int.not_lt, Int.not_le, ne_eq, Decidable.not_not, bne_eq_false_iff_eq] at hg5_38
          all_goals (exfalso; first | (simp at hg5_38; done) | (simp at hg5_38; omega) | (simp_all; omega) | omega)
      · skip
        try simp only [decide_eq_true_eq, decide_eq_false_iff_not, Bool.not_eq_true', Bool.not_eq_false', beq_iff_eq, bne_iff_ne, beq_eq_false_iff_ne, Bool.and_eq_true, Bool.or_eq_true, Bool.and_eq_false_iff, Bool.or_eq_false_iff, ge_iff_le, gt_iff_lt, Int.not_lt, Int.not_le, ne_eq, Decidable.not_not, bne_eq_false_iff_eq] at hg5_33
        all_goals (exfalso; first | (simp at hg5_33; done) | (simp at hg5_33; omega) | (simp_all; omega) | omega)
    · skip
      exact absurd hc4 (by decide)
  · skip
    try simp only [decide_eq_true_eq, decide_eq_false_iff_not, Bool.not_eq_true', Bool.not_eq_false', beq_iff_eq, bne_iff_ne, beq_eq_false_iff_ne, Bool.and_eq_true, Bool.or_eq_true, Bool.and_eq_false_iff, Bool.or_eq_false_iff, ge_iff_le, gt_iff_lt, Int.not_lt, Int.not_le, ne_eq, Decidable.not_not, bne_eq_false_iff_eq] at hg4_26
    refine g1 2 false 26 27 4 rfl rfl rfl rfl rfl ?_
    refine s1 27 200 4 rfl rfl rfl rfl rfl rfl trivial ?_
    refine g1 2 false 26 28 5 rfl rfl rfl rfl rfl ?_
    refine s1 28 208 5 rfl rfl rfl rfl rfl rfl (by first | trivial | omega | (simp only [List.length_map, List.length_append, List.length_cons, List.length_nil] at *; omega)) ?_
    refine s1 29 216 6 rfl rfl rfl rfl rfl rfl trivial ?_
    refine e1 224 rfl ?_
    refine keep [3, 4, 5, 6, 7, 8, 29] rfl ?_
    refine q1 rfl (fun hc4 => ?_) (fun hc4 => ?_)
    · skip
      try simp only [decide_eq_true_eq, decide_eq_false_iff_not, Bool.not_eq_true', Bool.not_eq_false', beq_iff_eq, bne_iff_ne, beq_eq_false_iff_ne, Bool.and_eq_true, Bool.or_eq_true, Bool.and_eq_false_iff, Bool.or_eq_false_iff, ge_iff_le, gt_iff_lt, Int.not_lt, Int.not_le, ne_eq, Decidable.not_not, bne_eq_false_iff_eq] at hc4
      refine r1 ?_
      refine s1 30 224 1 rfl rfl rfl rfl rfl rfl trivial ?_
      refine s1 31 232 2 rfl rfl rfl rfl rfl rfl (by first | trivial | omega | (simp only [List.length_map, List.length_append, List.length_cons, List.length_nil] at *; omega)) ?_
      refine s1 32 240 3 rfl rfl rfl rfl rfl rfl (by first | trivial | omega | (simp only [List.length_map, List.length_append, List.length_cons, List.length_nil] at *; omega)) ?_
      refine s1 33 248 4 rfl rfl rfl rfl rfl rfl trivial ?_
      refine ask 33 rfl (fun hg5_33 => ?_) (fun hg5_33 => ?_)
      · skip
        try simp only [decide_eq_true_eq, decide_eq_false_iff_not, Bool.not_eq_true', Bool.not_eq_false', beq_iff_eq, bne_iff_ne, beq_eq_false_iff_ne, Bool.and_eq_true, Bool.or_eq_true, Bool.and_eq_false_iff, Bool.or_eq_false_iff, ge_iff_le, gt_iff_lt, Int.not_lt, Int.not_le, ne_eq, Decidable.not_not, bne_eq_false_iff_eq] at hg5_33
        refine g1 3 true 33 34 5 rfl rfl rfl rfl rfl ?_
        refine s1 34 256 5 rfl rfl rfl rfl rfl rfl trivial ?_
        refine g1 3 true 33 35 6 rfl rfl rfl rfl rfl ?_
        refine s1 35 264 6 rfl rfl rfl rfl rfl rfl (by first | trivial | omega | (simp only [List.length_map, List.length_append, List.length_cons, List.length_nil] at *; omega)) ?_
        refine g1 3 true 33 36 7 rfl rfl rfl rfl rfl ?_
        refine s1 36 272 7 rfl rfl rfl rfl rfl rfl (by first | trivial | omega | (simp only [List.length_map, List.length_append, List.length_cons, List.length_nil] at *; omega)) ?_
        refine s1 37 280 8 rfl rfl rfl rfl rfl rfl trivial ?_
        refine s1 38 288 9 rfl rfl rfl rfl rfl rfl trivial ?_
        refine ask 38 rfl (fun hg5_38 => ?_) (fun hg5_38 => ?_)
        · skip
          try simp only [decide_eq_true_eq, decide_eq_false_iff_not, Bool.not_eq_true', Bool.not_eq_false', beq_iff_eq, bne_iff_ne, beq_eq_false_iff_ne, Bool.and_eq_true, Bool.or_eq_true, Bool.and_eq_false_iff, Bool.or_eq_false_iff, ge_iff_le, gt_iff_lt, Int.not_lt, Int.not_le, ne_eq, Decidable.not_not, bne_eq_false_iff_eq] at hg5_38
          refine g1 8 true 38 39 10 rfl rfl rfl rfl rfl ?_
          refine s1 39 296 10 rfl rfl rfl rfl rfl rfl trivial ?_
          refine g1 8 true 38 40 11 rfl rfl rfl rfl rfl ?_
          refine s1 40 304 11 rfl rfl rfl rfl rfl rfl (by first | trivial | omega | (simp only [List.length_map, List.length_append, List.length_cons, List.length_nil] at *; omega)) ?_
          refine g1 8 true 38 41 12 rfl rfl rfl rfl rfl ?_
          refine s1 41 312 12 rfl rfl rfl rfl rfl rfl (by first | trivial | omega | (simp only [List.length_map, List.length_append, List.length_cons, List.length_nil] at *; omega)) ?_
          refine s1 42 320 13 rfl rfl rfl rfl rfl rfl trivial ?_
          refine s1 43 328 14 rfl rfl rfl rfl rfl rfl trivial ?_
          refine ask 43 rfl (fun hg5_43 => ?_) (fun hg5_43 => ?_)
          · skip
            try simp only [decide_eq_true_eq, decide_eq_false_iff_not, Bool.not_eq_true', Bool.not_eq_false', beq_iff_eq, bne_iff_ne, beq_eq_false_iff_ne, Bool.and_eq_true, Bool.or_eq_true, Bool.and_eq_false_iff, Bool.or_eq_false_iff, ge_iff_le, gt_iff_lt, Int.not_lt, Int.not_le, ne_eq, Decidable.not_not, bne_eq_false_iff_eq] at hg5_43
            refine g1 13 true 43 44 15 rfl rfl rfl rfl rfl ?_
            refine s1 44 336 15 rfl rfl rfl rfl rfl rfl trivial ?_
            refine g1 13 true 43 45 16 rfl rfl rfl rfl rfl ?_
            refine s1 45 344 16 rfl rfl rfl rfl rfl rfl (by first | trivial | omega | (simp only [List.length_map, List.length_append, List.length_cons, List.length_nil] at *; omega)) ?_
            refine s1 46 352 17 rfl rfl rfl rfl rfl rfl trivial ?_
            refine s1 47 360 18 rfl rfl rfl rfl rfl rfl trivial ?_
            refine ask 47 rfl (fun hg5_47 => ?_) (fun hg5_47 => ?_)
            · skip
              try simp only [decide_eq_true_eq, decide_eq_false_iff_not, Bool.not_eq_true', Bool.not_eq_false', beq_iff_eq, bne_iff_ne, beq_eq_false_iff_ne, Bool.and_eq_true, Bool.or_eq_true, Bool.and_eq_false_iff, Bool.or_eq_false_iff, ge_iff_le, gt_iff_lt, Int.not_lt, Int.not_le, ne_eq, Decidable.not_not, bne_eq_false_iff_eq] at hg5_47
              refine g1 17 true 47 48 19 rfl rfl rfl rfl rfl ?_
              refine s1 48 368 19 rfl rfl rfl rfl rfl rfl trivial ?_
              refine g1 17 true 47 49 20 rfl rfl rfl rfl rfl ?_
              refine s1 49 376 20 rfl rfl rfl rfl rfl rfl (by first | trivial | omega | (simp only [List.length_map, List.length_append, List.length_cons, List.length_nil] at *; omega)) ?_
              refine s1 50 384 21 rfl rfl rfl rfl rfl rfl trivial ?_
              refine s1 51 392 22 rfl rfl rfl rfl rfl rfl trivial ?_
              refine ask 51 rfl (fun hg5_51 => ?_) (fun hg5_51 => ?_)
              · skip
                try simp only [decide_eq_true_eq, decide_eq_false_iff_not, Bool.not_eq_true', Bool.not_eq_false', beq_iff_eq, bne_iff_ne, beq_eq_false_iff_ne, Bool.and_eq_true, Bool.or_eq_true, Bool.and_eq_false_iff, Bool.or_eq_false_iff, ge_iff_le, gt_iff_lt, Int.not_lt, Int.not_le, ne_eq, Decidable.not_not, bne_eq_false_iff_eq] at hg5_51
                refine g1 21 true 51 52 23 rfl rfl rfl rfl rfl ?_
                refine s1 52 400 23 rfl rfl rfl rfl rfl rfl trivial ?_
                refine g1 21 true 51 53 24 rfl rfl rfl rfl rfl ?_
                refine s1 53 408 24 rfl rfl rfl rfl rfl rfl (by first | trivial | omega | (simp only [List.length_map, List.length_append, List.length_cons, List.length_nil] at *; omega)) ?_
                refine s1 54 416 25 rfl rfl rfl rfl rfl rfl trivial ?_
                refine s1 2 424 26 rfl rfl rfl rfl rfl rfl trivial ?_
                refine e1 432 rfl ?_
                refine keep [2] rfl ?_
                refine W_ret ?_
                refine tr ?_
                exact out1 2 (SV.b true) (π := []) (hout := []) Tryd.results3 rfl (by first | rfl | (simp; done) | (simp [*]; done)) rfl rfl trivial rfl
              · skip
                try simp only [decide_eq_true_eq, decide_eq_false_iff_not, Bool.not_eq_true', Bool.not_eq_false', beq_iff_eq, bne_iff_ne, beq_eq_false_iff_ne, Bool.and_eq_true, Bool.or_eq_true, Bool.and_eq_false_iff, Bool.or_eq_false_iff, ge_iff_le, gt_iff_lt, Int.not_lt, Int.not_le, ne_eq, Decidable.not_not, bne_eq_false_iff_eq] at hg5_51
                all_goals (exfalso; first | (simp at hg5_51; done) | (simp at hg5_51; omega) | (simp_all; omega) | omega)
            · skip
              try simp only [decide_eq_true_eq, decide_eq_false_iff_not, Bool.not_eq_true', Bool.not_eq_false', beq_iff_eq, bne_iff_ne, beq_eq_false_iff_ne, Bool.and_eq_true, Bool.or_eq_true, Bool.and_eq_false_iff, Bool.or_eq_false_iff, ge_iff_le, gt_iff_lt, Int.not_lt, Int.not_le, ne_eq, Decidable.not_not, bne_eq_false_iff_eq] at hg5_47
              all_goals (exfalso; first | (simp at hg5_47; done) | (simp at hg5_47; omega) | (simp_all; omega) | omega)
          · skip
            try simp only [decide_eq_true_eq, decide_eq_false_iff_not, Bool.not_eq_true', Bool.not_eq_false', beq_iff_eq, bne_iff_ne, beq_eq_false_iff_ne, Bool.and_eq_true, Bool.or_eq_true, Bool.and_eq_false_iff, Bool.or_eq_false_iff, ge_iff_le, gt_iff_lt, Int.not_lt, Int.not_le, ne_eq, Decidable.not_not, bne_eq_false_iff_eq] at hg5_43
            all_goals (exfalso; first | (simp at hg5_43; done) | (simp at hg5_43; omega) | (simp_all; omega) | omega)
        · skip
          try simp only [decide_eq_true_eq, decide_eq_false_iff_not, Bool.not_eq_true', Bool.not_eq_false', beq_iff_eq, bne_iff_ne, beq_eq_false_iff_ne, Bool.and_eq_true, Bool.or_eq_true, Bool.and_eq_false_iff, Bool.or_eq_false_iff, ge_iff_le, gt_iff_lt, Int.not_lt, Int.not_le, ne_eq, Decidable.not_not, bne_eq_false_iff_eq] at hg5_38
          all_goals (exfalso; first | (simp at hg5_38; done) | (simp at hg5_38; omega) | (simp_all; omega) | omega)
      · skip
        try simp only [decide_eq_true_eq, decide_eq_false_iff_not, Bool.not_eq_true', Bool.not_eq_false', beq_iff_eq, bne_iff_ne, beq_eq_false_iff_ne, Bool.and_eq_true, Bool.or_eq_true, Bool.and_eq_false_iff, Bool.or_eq_false_iff, ge_iff_le, gt_iff_lt, Int.not_lt, Int.not_le, ne_eq, Decidable.not_not, bne_eq_false_iff_eq] at hg5_33
        all_goals (exfalso; first | (simp at hg5_33; done) | (simp at hg5_33; omega) | (simp_all; omega) | omega)
    · skip
      exfalso; simp at hc4; omega

theorem law_all (parts : Int) : Spec Tryd.prog GV 3 [SV.i parts] [] (fun r _ => r = SV.b true) := by
  by_cases hr : 1 ≤ parts ∧ parts ≤ 4
  · exact law_yes parts hr
  · exact law_no parts hr

end Go.Proofs.YtghnikahahbleaaDoor.Nice
