/- The codes of package epoch, and the law EpochCodes. -/
import Derived.Test.YtnmbdggdilbdaaaCodeMay
namespace Go.Proofs.Ytnmbdggdilbdaaa.Nice
open Go
set_option linter.unusedVariables false
set_option linter.unusedSimpArgs false
set_option maxRecDepth 100000
set_option maxHeartbeats 4000000
abbrev st_again : ByteArray := ⟨#[97, 103, 97, 105, 110]⟩
abbrev st_base : ByteArray := ⟨#[98, 97, 115, 101]⟩
abbrev st_later : ByteArray := ⟨#[108, 97, 116, 101, 114]⟩
abbrev st_me : ByteArray := ⟨#[109, 101]⟩
abbrev st_more : ByteArray := ⟨#[109, 111, 114, 101]⟩
abbrev st_next : ByteArray := ⟨#[110, 101, 120, 116]⟩
abbrev st_none : ByteArray := ⟨#[110, 111, 110, 101]⟩
abbrev st_now : ByteArray := ⟨#[110, 111, 119]⟩
abbrev st_one : ByteArray := ⟨#[111, 110, 101]⟩
abbrev st_pin : ByteArray := ⟨#[112, 105, 110]⟩
abbrev st_slot : ByteArray := ⟨#[115, 108, 111, 116]⟩
abbrev st_slots : ByteArray := ⟨#[115, 108, 111, 116, 115]⟩
abbrev st_take : ByteArray := ⟨#[116, 97, 107, 101]⟩
abbrev st_threads : ByteArray := ⟨#[116, 104, 114, 101, 97, 100, 115]⟩
abbrev st_turn : ByteArray := ⟨#[116, 117, 114, 110]⟩
abbrev st_who : ByteArray := ⟨#[119, 104, 111]⟩
theorem may_any (threads slots : Int) : Spec Try.prog GV 71 [SV.i threads, SV.i slots] [] (fun r ho => r = SV.b ((decide (1 ≤ threads) && decide (threads ≤ 4)) && (decide (1 ≤ slots) && decide (slots ≤ 8))) ∧ ho = []) := by
  refine start 19 0 Try.func71 rfl rfl rfl rfl ?_
  refine r1 ?_
  refine s1 4 0 1 rfl rfl rfl rfl rfl rfl trivial ?_
  refine e1 8 rfl ?_
  refine keep [0, 1] rfl ?_
  refine r1 ?_
  refine s1 5 8 1 rfl rfl rfl rfl rfl rfl trivial ?_
  refine s1 6 16 2 rfl rfl rfl rfl rfl rfl (by first | trivial | omega | (simp only [List.length_map, List.length_append, List.length_cons, List.length_nil] at *; omega)) ?_
  refine s1 7 24 3 rfl rfl rfl rfl rfl rfl trivial ?_
  refine ask 7 rfl (fun hg1_7 => ?_) (fun hg1_7 => ?_)
  · skip
    try simp only [decide_eq_true_eq, decide_eq_false_iff_not, Bool.not_eq_true', Bool.not_eq_false', beq_iff_eq, bne_iff_ne, beq_eq_false_iff_ne, Bool.and_eq_true, Bool.or_eq_true, Bool.and_eq_false_iff, Bool.or_eq_false_iff, ge_iff_le, gt_iff_lt, Int.not_lt, Int.not_le, ne_eq, Decidable.not_not, bne_eq_false_iff_eq] at hg1_7
    refine g1 2 true 7 8 4 rfl rfl rfl rfl rfl ?_
    refine s1 8 32 4 rfl rfl rfl rfl rfl rfl trivial ?_
    refine g1 2 true 7 9 5 rfl rfl rfl rfl rfl ?_
    refine s1 9 40 5 rfl rfl rfl rfl rfl rfl (by first | trivial | omega | (simp only [List.length_map, List.length_append, List.length_cons, List.length_nil] at *; omega)) ?_
    refine s1 10 48 6 rfl rfl rfl rfl rfl rfl trivial ?_
    refine s1 11 56 7 rfl rfl rfl rfl rfl rfl trivial ?_
    refine ask 11 rfl (fun hg1_11 => ?_) (fun hg1_11 => ?_)
    · skip
      try simp only [decide_eq_true_eq, decide_eq_false_iff_not, Bool.not_eq_true', Bool.not_eq_false', beq_iff_eq, bne_iff_ne, beq_eq_false_iff_ne, Bool.and_eq_true, Bool.or_eq_true, Bool.and_eq_false_iff, Bool.or_eq_false_iff, ge_iff_le, gt_iff_lt, Int.not_lt, Int.not_le, ne_eq, Decidable.not_not, bne_eq_false_iff_eq] at hg1_11
      refine g1 6 true 11 12 8 rfl rfl rfl rfl rfl ?_
      refine s1 12 64 8 rfl rfl rfl rfl rfl rfl trivial ?_
      refine g1 6 true 11 13 9 rfl rfl rfl rfl rfl ?_
      refine s1 13 72 9 rfl rfl rfl rfl rfl rfl (by first | trivial | omega | (simp only [List.length_map, List.length_append, List.length_cons, List.length_nil] at *; omega)) ?_
      refine s1 14 80 10 rfl rfl rfl rfl rfl rfl trivial ?_
      refine s1 15 88 11 rfl rfl rfl rfl rfl rfl trivial ?_
      refine ask 15 rfl (fun hg1_15 => ?_) (fun hg1_15 => ?_)
      · skip
        try simp only [decide_eq_true_eq, decide_eq_false_iff_not, Bool.not_eq_true', Bool.not_eq_false', beq_iff_eq, bne_iff_ne, beq_eq_false_iff_ne, Bool.and_eq_true, Bool.or_eq_true, Bool.and_eq_false_iff, Bool.or_eq_false_iff, ge_iff_le, gt_iff_lt, Int.not_lt, Int.not_le, ne_eq, Decidable.not_not, bne_eq_false_iff_eq] at hg1_15
        refine g1 10 true 15 16 12 rfl rfl rfl rfl rfl ?_
        refine s1 16 96 12 rfl rfl rfl rfl rfl rfl trivial ?_
        refine g1 10 true 15 17 13 rfl rfl rfl rfl rfl ?_
        refine s1 17 104 13 rfl rfl rfl rfl rfl rfl (by first | trivial | omega | (simp only [List.length_map, List.length_append, List.length_cons, List.length_nil] at *; omega)) ?_
        refine s1 18 112 14 rfl rfl rfl rfl rfl rfl trivial ?_
        refine s1 4 120 15 rfl rfl rfl rfl rfl rfl trivial ?_
        refine e1 128 rfl ?_
        refine keep [4] rfl ?_
        refine W_ret ?_
        exact out1 4 (SV.b ((decide (1 ≤ threads) && decide (threads ≤ 4)) && (decide (1 ≤ slots) && decide (slots ≤ 8)))) (π := []) (hout := []) Try.results71 rfl (by show SV.b _ = SV.b _; refine congrArg SV.b (Bool.eq_iff_iff.2 ?_); simp at *; try omega) rfl rfl trivial ⟨rfl, rfl⟩
      · skip
        try simp only [decide_eq_true_eq, decide_eq_false_iff_not, Bool.not_eq_true', Bool.not_eq_false', beq_iff_eq, bne_iff_ne, beq_eq_false_iff_ne, Bool.and_eq_true, Bool.or_eq_true, Bool.and_eq_false_iff, Bool.or_eq_false_iff, ge_iff_le, gt_iff_lt, Int.not_lt, Int.not_le, ne_eq, Decidable.not_not, bne_eq_false_iff_eq] at hg1_15
        refine g0 10 true 15 16 12 rfl rfl rfl rfl rfl rfl ?_
        refine g0 10 true 15 17 13 rfl rfl rfl rfl rfl rfl ?_
        refine s1 18 112 14 rfl rfl rfl rfl rfl rfl trivial ?_
        refine s1 4 120 15 rfl rfl rfl rfl rfl rfl trivial ?_
        refine e1 128 rfl ?_
        refine keep [4] rfl ?_
        refine W_ret ?_
        exact out1 4 (SV.b ((decide (1 ≤ threads) && decide (threads ≤ 4)) && (decide (1 ≤ slots) && decide (slots ≤ 8)))) (π := []) (hout := []) Try.results71 rfl (by show SV.b _ = SV.b _; refine congrArg SV.b (Bool.eq_iff_iff.2 ?_); simp at *; try omega) rfl rfl trivial ⟨rfl, rfl⟩
    · skip
      try simp only [decide_eq_true_eq, decide_eq_false_iff_not, Bool.not_eq_true', Bool.not_eq_false', beq_iff_eq, bne_iff_ne, beq_eq_false_iff_ne, Bool.and_eq_true, Bool.or_eq_true, Bool.and_eq_false_iff, Bool.or_eq_false_iff, ge_iff_le, gt_iff_lt, Int.not_lt, Int.not_le, ne_eq, Decidable.not_not, bne_eq_false_iff_eq] at hg1_11
      refine g0 6 true 11 12 8 rfl rfl rfl rfl rfl rfl ?_
      refine g0 6 true 11 13 9 rfl rfl rfl rfl rfl rfl ?_
      refine s1 14 80 10 rfl rfl rfl rfl rfl rfl trivial ?_
      refine s1 15 88 11 rfl rfl rfl rfl rfl rfl trivial ?_
      refine g0 10 true 15 16 12 rfl rfl rfl rfl rfl rfl ?_
      refine g0 10 true 15 17 13 rfl rfl rfl rfl rfl rfl ?_
      refine s1 18 112 14 rfl rfl rfl rfl rfl rfl trivial ?_
      refine s1 4 120 15 rfl rfl rfl rfl rfl rfl trivial ?_
      refine e1 128 rfl ?_
      refine keep [4] rfl ?_
      refine W_ret ?_
      exact out1 4 (SV.b ((decide (1 ≤ threads) && decide (threads ≤ 4)) && (decide (1 ≤ slots) && decide (slots ≤ 8)))) (π := []) (hout := []) Try.results71 rfl (by show SV.b _ = SV.b _; refine congrArg SV.b (Bool.eq_iff_iff.2 ?_); simp at *; try omega) rfl rfl trivial ⟨rfl, rfl⟩
  · skip
    try simp only [decide_eq_true_eq, decide_eq_false_iff_not, Bool.not_eq_true', Bool.not_eq_false', beq_iff_eq, bne_iff_ne, beq_eq_false_iff_ne, Bool.and_eq_true, Bool.or_eq_true, Bool.and_eq_false_iff, Bool.or_eq_false_iff, ge_iff_le, gt_iff_lt, Int.not_lt, Int.not_le, ne_eq, Decidable.not_not, bne_eq_false_iff_eq] at hg1_7
    refine g0 2 true 7 8 4 rfl rfl rfl rfl rfl rfl ?_
    refine g0 2 true 7 9 5 rfl rfl rfl rfl rfl rfl ?_
    refine s1 10 48 6 rfl rfl rfl rfl rfl rfl trivial ?_
    refine s1 11 56 7 rfl rfl rfl rfl rfl rfl trivial ?_
    refine g0 6 true 11 12 8 rfl rfl rfl rfl rfl rfl ?_
    refine g0 6 true 11 13 9 rfl rfl rfl rfl rfl rfl ?_
    refine s1 14 80 10 rfl rfl rfl rfl rfl rfl trivial ?_
    refine s1 15 88 11 rfl rfl rfl rfl rfl rfl trivial ?_
    refine g0 10 true 15 16 12 rfl rfl rfl rfl rfl rfl ?_
    refine g0 10 true 15 17 13 rfl rfl rfl rfl rfl rfl ?_
    refine s1 18 112 14 rfl rfl rfl rfl rfl rfl trivial ?_
    refine s1 4 120 15 rfl rfl rfl rfl rfl rfl trivial ?_
    refine e1 128 rfl ?_
    refine keep [4] rfl ?_
    refine W_ret ?_
    exact out1 4 (SV.b ((decide (1 ≤ threads) && decide (threads ≤ 4)) && (decide (1 ≤ slots) && decide (slots ≤ 8)))) (π := []) (hout := []) Try.results71 rfl (by show SV.b _ = SV.b _; refine congrArg SV.b (Bool.eq_iff_iff.2 ?_); simp at *; try omega) rfl rfl trivial ⟨rfl, rfl⟩

theorem no_Words (threads slots : Int) (hr : ¬ (1 ≤ threads ∧ threads ≤ 4 ∧ 1 ≤ slots ∧ slots ≤ 8)) : Spec Try.prog GV 40 [SV.i threads, SV.i slots] [] (fun r ho => r = SV.tup [.d .nils, SV.i 2] ∧ ho = []) := by
  refine start 15 0 Try.func40 rfl rfl rfl rfl ?_
  refine r1 ?_
  refine s1 4 0 1 rfl rfl rfl rfl rfl rfl trivial ?_
  refine s1 5 8 2 rfl rfl rfl rfl rfl rfl trivial ?_
  refine e1 16 rfl ?_
  refine keep [0, 1] rfl ?_
  refine W_seq ?_
  refine r1 ?_
  refine s1 6 16 1 rfl rfl rfl rfl rfl rfl trivial ?_
  refine s1 7 24 2 rfl rfl rfl rfl rfl rfl trivial ?_
  refine c1 (may_any threads slots) [] [] 8 32 3 rfl rfl rfl rfl rfl rfl rfl rfl Try.func71 rfl rfl rfl rfl trivial rfl rfl ?_
  refine s1 9 40 4 rfl rfl rfl rfl rfl rfl trivial ?_
  refine e1 48 rfl ?_
  refine keep [0, 1, 9] rfl ?_
  refine q1 rfl (fun hc1 => ?_) (fun hc1 => ?_)
  · skip
    try simp only [decide_eq_true_eq, decide_eq_false_iff_not, Bool.not_eq_true', Bool.not_eq_false', beq_iff_eq, bne_iff_ne, beq_eq_false_iff_ne, Bool.and_eq_true, Bool.or_eq_true, Bool.and_eq_false_iff, Bool.or_eq_false_iff, ge_iff_le, gt_iff_lt, Int.not_lt, Int.not_le, ne_eq, Decidable.not_not, bne_eq_false_iff_eq] at hc1
    refine r1 ?_
    refine s1 4 48 1 rfl rfl rfl rfl rfl rfl trivial ?_
    refine s1 5 56 2 rfl rfl rfl rfl rfl rfl trivial ?_
    refine e1 64 rfl ?_
    refine keep [4, 5] rfl ?_
    refine W_ret ?_
    refine tr ?_
    exact out2 4 5 (.d .nils) (SV.i 2) (π := []) (hout := []) Try.results40 rfl rfl rfl rfl rfl rfl trivial ⟨rfl, rfl⟩
  · skip
    exfalso; simp at hc1; omega

theorem no_Pin (threads slots : Int) (hr : ¬ (1 ≤ threads ∧ threads ≤ 4 ∧ 1 ≤ slots ∧ slots ≤ 8)) : Spec Try.prog GV 41 [SV.i threads, SV.i slots] [] (fun r ho => r = SV.tup [.d .nils, SV.i 2] ∧ ho = []) := by
  refine start 19 0 Try.func41 rfl rfl rfl rfl ?_
  refine r1 ?_
  refine s1 4 0 1 rfl rfl rfl rfl rfl rfl trivial ?_
  refine s1 5 8 2 rfl rfl rfl rfl rfl rfl trivial ?_
  refine e1 16 rfl ?_
  refine keep [0, 1] rfl ?_
  refine W_seq ?_
  refine r1 ?_
  refine s1 7 16 1 rfl rfl rfl rfl rfl rfl trivial ?_
  refine s1 8 24 2 rfl rfl rfl rfl rfl rfl trivial ?_
  refine c1 (may_any threads slots) [] [] 9 32 3 rfl rfl rfl rfl rfl rfl rfl rfl Try.func71 rfl rfl rfl rfl trivial rfl rfl ?_
  refine s1 10 40 4 rfl rfl rfl rfl rfl rfl trivial ?_
  refine e1 48 rfl ?_
  refine keep [10] rfl ?_
  refine q1 rfl (fun hc1 => ?_) (fun hc1 => ?_)
  · skip
    try simp only [decide_eq_true_eq, decide_eq_false_iff_not, Bool.not_eq_true', Bool.not_eq_false', beq_iff_eq, bne_iff_ne, beq_eq_false_iff_ne, Bool.and_eq_true, Bool.or_eq_true, Bool.and_eq_false_iff, Bool.or_eq_false_iff, ge_iff_le, gt_iff_lt, Int.not_lt, Int.not_le, ne_eq, Decidable.not_not, bne_eq_false_iff_eq] at hc1
    refine r1 ?_
    refine s1 4 48 1 rfl rfl rfl rfl rfl rfl trivial ?_
    refine s1 5 56 2 rfl rfl rfl rfl rfl rfl trivial ?_
    refine e1 64 rfl ?_
    refine keep [4, 5] rfl ?_
    refine W_ret ?_
    refine tr ?_
    exact out2 4 5 (.d .nils) (SV.i 2) (π := []) (hout := []) Try.results41 rfl rfl rfl rfl rfl rfl trivial ⟨rfl, rfl⟩
  · skip
    exfalso; simp at hc1; omega

theorem no_Unpin (threads slots : Int) (hr : ¬ (1 ≤ threads ∧ threads ≤ 4 ∧ 1 ≤ slots ∧ slots ≤ 8)) : Spec Try.prog GV 42 [SV.i threads, SV.i slots] [] (fun r ho => r = SV.tup [.d .nils, SV.i 2] ∧ ho = []) := by
  refine start 14 0 Try.func42 rfl rfl rfl rfl ?_
  refine r1 ?_
  refine s1 4 0 1 rfl rfl rfl rfl rfl rfl trivial ?_
  refine s1 5 8 2 rfl rfl rfl rfl rfl rfl trivial ?_
  refine e1 16 rfl ?_
  refine keep [0, 1] rfl ?_
  refine W_seq ?_
  refine r1 ?_
  refine s1 6 16 1 rfl rfl rfl rfl rfl rfl trivial ?_
  refine s1 7 24 2 rfl rfl rfl rfl rfl rfl trivial ?_
  refine c1 (may_any threads slots) [] [] 8 32 3 rfl rfl rfl rfl rfl rfl rfl rfl Try.func71 rfl rfl rfl rfl trivial rfl rfl ?_
  refine s1 9 40 4 rfl rfl rfl rfl rfl rfl trivial ?_
  refine e1 48 rfl ?_
  refine keep [9] rfl ?_
  refine q1 rfl (fun hc1 => ?_) (fun hc1 => ?_)
  · skip
    try simp only [decide_eq_true_eq, decide_eq_false_iff_not, Bool.not_eq_true', Bool.not_eq_false', beq_iff_eq, bne_iff_ne, beq_eq_false_iff_ne, Bool.and_eq_true, Bool.or_eq_true, Bool.and_eq_false_iff, Bool.or_eq_false_iff, ge_iff_le, gt_iff_lt, Int.not_lt, Int.not_le, ne_eq, Decidable.not_not, bne_eq_false_iff_eq] at hc1
    refine r1 ?_
    refine s1 4 48 1 rfl rfl rfl rfl rfl rfl trivial ?_
    refine s1 5 56 2 rfl rfl rfl rfl rfl rfl trivial ?_
    refine e1 64 rfl ?_
    refine keep [4, 5] rfl ?_
    refine W_ret ?_
    refine tr ?_
    exact out2 4 5 (.d .nils) (SV.i 2) (π := []) (hout := []) Try.results42 rfl rfl rfl rfl rfl rfl trivial ⟨rfl, rfl⟩
  · skip
    exfalso; simp at hc1; omega

theorem no_Retire (threads slots : Int) (hr : ¬ (1 ≤ threads ∧ threads ≤ 4 ∧ 1 ≤ slots ∧ slots ≤ 8)) : Spec Try.prog GV 43 [SV.i threads, SV.i slots] [] (fun r ho => r = SV.tup [.d .nils, SV.i 2] ∧ ho = []) := by
  refine start 26 0 Try.func43 rfl rfl rfl rfl ?_
  refine r1 ?_
  refine s1 4 0 1 rfl rfl rfl rfl rfl rfl trivial ?_
  refine s1 5 8 2 rfl rfl rfl rfl rfl rfl trivial ?_
  refine e1 16 rfl ?_
  refine keep [0, 1] rfl ?_
  refine W_seq ?_
  refine r1 ?_
  refine s1 7 16 1 rfl rfl rfl rfl rfl rfl trivial ?_
  refine s1 8 24 2 rfl rfl rfl rfl rfl rfl trivial ?_
  refine c1 (may_any threads slots) [] [] 9 32 3 rfl rfl rfl rfl rfl rfl rfl rfl Try.func71 rfl rfl rfl rfl trivial rfl rfl ?_
  refine s1 10 40 4 rfl rfl rfl rfl rfl rfl trivial ?_
  refine e1 48 rfl ?_
  refine keep [0, 10] rfl ?_
  refine q1 rfl (fun hc1 => ?_) (fun hc1 => ?_)
  · skip
    try simp only [decide_eq_true_eq, decide_eq_false_iff_not, Bool.not_eq_true', Bool.not_eq_false', beq_iff_eq, bne_iff_ne, beq_eq_false_iff_ne, Bool.and_eq_true, Bool.or_eq_true, Bool.and_eq_false_iff, Bool.or_eq_false_iff, ge_iff_le, gt_iff_lt, Int.not_lt, Int.not_le, ne_eq, Decidable.not_not, bne_eq_false_iff_eq] at hc1
    refine r1 ?_
    refine s1 4 48 1 rfl rfl rfl rfl rfl rfl trivial ?_
    refine s1 5 56 2 rfl rfl rfl rfl rfl rfl trivial ?_
    refine e1 64 rfl ?_
    refine keep [4, 5] rfl ?_
    refine W_ret ?_
    refine tr ?_
    exact out2 4 5 (.d .nils) (SV.i 2) (π := []) (hout := []) Try.results43 rfl rfl rfl rfl rfl rfl trivial ⟨rfl, rfl⟩
  · skip
    exfalso; simp at hc1; omega

theorem no_Free (threads slots : Int) (hr : ¬ (1 ≤ threads ∧ threads ≤ 4 ∧ 1 ≤ slots ∧ slots ≤ 8)) : Spec Try.prog GV 44 [SV.i threads, SV.i slots] [] (fun r ho => r = SV.tup [.d .nils, SV.i 2] ∧ ho = []) := by
  refine start 57 0 Try.func44 rfl rfl rfl rfl ?_
  refine r1 ?_
  refine s1 4 0 1 rfl rfl rfl rfl rfl rfl trivial ?_
  refine s1 5 8 2 rfl rfl rfl rfl rfl rfl trivial ?_
  refine e1 16 rfl ?_
  refine keep [0, 1] rfl ?_
  refine W_seq ?_
  refine r1 ?_
  refine s1 7 16 1 rfl rfl rfl rfl rfl rfl trivial ?_
  refine s1 8 24 2 rfl rfl rfl rfl rfl rfl trivial ?_
  refine c1 (may_any threads slots) [] [] 9 32 3 rfl rfl rfl rfl rfl rfl rfl rfl Try.func71 rfl rfl rfl rfl trivial rfl rfl ?_
  refine s1 10 40 4 rfl rfl rfl rfl rfl rfl trivial ?_
  refine e1 48 rfl ?_
  refine keep [0, 1, 10] rfl ?_
  refine q1 rfl (fun hc1 => ?_) (fun hc1 => ?_)
  · skip
    try simp only [decide_eq_true_eq, decide_eq_false_iff_not, Bool.not_eq_true', Bool.not_eq_false', beq_iff_eq, bne_iff_ne, beq_eq_false_iff_ne, Bool.and_eq_true, Bool.or_eq_true, Bool.and_eq_false_iff, Bool.or_eq_false_iff, ge_iff_le, gt_iff_lt, Int.not_lt, Int.not_le, ne_eq, Decidable.not_not, bne_eq_false_iff_eq] at hc1
    refine r1 ?_
    refine s1 4 48 1 rfl rfl rfl rfl rfl rfl trivial ?_
    refine s1 5 56 2 rfl rfl rfl rfl rfl rfl trivial ?_
    refine e1 64 rfl ?_
    refine keep [4, 5] rfl ?_
    refine W_ret ?_
    refine tr ?_
    exact out2 4 5 (.d .nils) (SV.i 2) (π := []) (hout := []) Try.results44 rfl rfl rfl rfl rfl rfl trivial ⟨rfl, rfl⟩
  · skip
    exfalso; simp at hc1; omega

theorem yes_Words (threads slots : Int) (hr : 1 ≤ threads ∧ threads ≤ 4 ∧ 1 ≤ slots ∧ slots ≤ 8) : Spec Try.prog GV 40 [SV.i threads, SV.i slots] [] (fun r ho => r = SV.tup [.sl 0 0 (1 + threads + slots).toNat, SV.i 0] ∧ ho = [none]) := by
  refine start 15 0 Try.func40 rfl rfl rfl rfl ?_
  refine r1 ?_
  refine s1 4 0 1 rfl rfl rfl rfl rfl rfl trivial ?_
  refine s1 5 8 2 rfl rfl rfl rfl rfl rfl trivial ?_
  refine e1 16 rfl ?_
  refine keep [0, 1] rfl ?_
  refine W_seq ?_
  refine r1 ?_
  refine s1 6 16 1 rfl rfl rfl rfl rfl rfl trivial ?_
  refine s1 7 24 2 rfl rfl rfl rfl rfl rfl trivial ?_
  refine c1 (may_any threads slots) [] [] 8 32 3 rfl rfl rfl rfl rfl rfl rfl rfl Try.func71 rfl rfl rfl rfl trivial rfl rfl ?_
  refine s1 9 40 4 rfl rfl rfl rfl rfl rfl trivial ?_
  refine e1 48 rfl ?_
  refine keep [0, 1, 9] rfl ?_
  refine q1 rfl (fun hc1 => ?_) (fun hc1 => ?_)
  · skip
    exfalso; simp at hc1; omega
  · skip
    try simp only [decide_eq_true_eq, decide_eq_false_iff_not, Bool.not_eq_true', Bool.not_eq_false', beq_iff_eq, bne_iff_ne, beq_eq_false_iff_ne, Bool.and_eq_true, Bool.or_eq_true, Bool.and_eq_false_iff, Bool.or_eq_false_iff, ge_iff_le, gt_iff_lt, Int.not_lt, Int.not_le, ne_eq, Decidable.not_not, bne_eq_false_iff_eq] at hc1
    refine W_skip ?_
    refine tn ?_
    refine r1 ?_
    refine s1 10 48 1 rfl rfl rfl rfl rfl rfl trivial ?_
    refine sA 11 56 2 rfl rfl rfl rfl rfl rfl rfl rfl rfl (by unfold inRange; omega) ?_
    refine s1 12 64 3 rfl rfl rfl rfl rfl rfl trivial ?_
    refine sA 13 72 4 rfl rfl rfl rfl rfl rfl rfl rfl rfl (by unfold inRange; omega) ?_
    refine s1 14 80 5 rfl rfl rfl rfl rfl rfl (by refine ⟨?_, rfl, ?_, ?_⟩; omega; (show _ * 8 ≤ (140737488355328 : Int); omega); omega) ?_
    refine s1 4 88 6 rfl rfl rfl rfl rfl rfl trivial ?_
    refine s1 5 96 7 rfl rfl rfl rfl rfl rfl trivial ?_
    refine e1 104 rfl ?_
    refine keep [4, 5] rfl ?_
    refine W_ret ?_
    exact out2 4 5 (.sl 0 0 (1 + threads + slots).toNat) (SV.i 0) (π := [80]) (hout := [none]) Try.results40 rfl rfl rfl rfl rfl rfl trivial ⟨rfl, rfl⟩

def B_Pin (threads slots : Int) : Bld := (((((mk [st_me]).set st_one 1).word 13 st_turn st_base 0).doo 3 st_turn st_turn st_one).word 14 st_turn st_me 1)
theorem yes_Pin (threads slots : Int) (hr : 1 ≤ threads ∧ threads ≤ 4 ∧ 1 ≤ slots ∧ slots ≤ 8) : Spec Try.prog GV 41 [SV.i threads, SV.i slots] [] (fun r ho => r = SV.tup [.sl 0 0 (fin (B_Pin threads slots)).length, SV.i 0] ∧ ho = [some (.rows 42 5 (fin (B_Pin threads slots)).length (insF (fin (B_Pin threads slots))))]) := by
  refine start 19 0 Try.func41 rfl rfl rfl rfl ?_
  refine r1 ?_
  refine s1 4 0 1 rfl rfl rfl rfl rfl rfl trivial ?_
  refine s1 5 8 2 rfl rfl rfl rfl rfl rfl trivial ?_
  refine e1 16 rfl ?_
  refine keep [0, 1] rfl ?_
  refine W_seq ?_
  refine r1 ?_
  refine s1 7 16 1 rfl rfl rfl rfl rfl rfl trivial ?_
  refine s1 8 24 2 rfl rfl rfl rfl rfl rfl trivial ?_
  refine c1 (may_any threads slots) [] [] 9 32 3 rfl rfl rfl rfl rfl rfl rfl rfl Try.func71 rfl rfl rfl rfl trivial rfl rfl ?_
  refine s1 10 40 4 rfl rfl rfl rfl rfl rfl trivial ?_
  refine e1 48 rfl ?_
  refine keep [10] rfl ?_
  refine q1 rfl (fun hc1 => ?_) (fun hc1 => ?_)
  · skip
    exfalso; simp at hc1; omega
  · skip
    try simp only [decide_eq_true_eq, decide_eq_false_iff_not, Bool.not_eq_true', Bool.not_eq_false', beq_iff_eq, bne_iff_ne, beq_eq_false_iff_ne, Bool.and_eq_true, Bool.or_eq_true, Bool.and_eq_false_iff, Bool.or_eq_false_iff, ge_iff_le, gt_iff_lt, Int.not_lt, Int.not_le, ne_eq, Decidable.not_not, bne_eq_false_iff_eq] at hc1
    refine W_skip ?_
    refine tn ?_
    refine r1 ?_
    refine sLit 1 (strsF [st_me]) 11 48 1 rfl rfl rfl rfl rfl rfl rfl rfl rfl (by intro i c hi hc; obtain rfl : i = 0 := (by omega); obtain rfl : c = 0 := (by omega); rfl) ?_
    refine c1 (new_any [st_me] (by decide)) [] [56, 57, 58, 59, 60] 12 56 2 rfl rfl rfl rfl rfl rfl rfl rfl Try.func45 rfl rfl rfl rfl trivial rfl rfl ?_
    have hb1 := ok_mk [st_me]
    refine c1 (set_any (mk [st_me]) st_one 1 hb1 (by decide)) [56, 57, 58, 59, 60] [56, 57, 58, 59, 60, 64] 13 64 3 rfl rfl rfl rfl rfl rfl rfl rfl Try.func46 rfl rfl rfl rfl ⟨rfl, rfl, rfl, rfl, rfl, trivial⟩ rfl rfl ?_
    have hb2 := ok_set st_one 1 hb1
    refine c1 (word_any ((mk [st_me]).set st_one 1) 13 st_turn st_base 0 hb2 (by decide)) [56, 64, 58, 59, 60] [56, 64, 58, 59, 60, 72] 14 72 4 rfl rfl rfl rfl rfl rfl rfl rfl Try.func52 rfl rfl rfl rfl ⟨rfl, rfl, rfl, rfl, rfl, trivial⟩ rfl rfl ?_
    have hb3 := ok_word 13 st_turn st_base 0 hb2
    refine c1 (doo_any (((mk [st_me]).set st_one 1).word 13 st_turn st_base 0) 3 st_turn st_turn st_one hb3 (by decide)) [56, 72, 58, 59, 60] [56, 72, 58, 59, 60, 80] 15 80 5 rfl rfl rfl rfl rfl rfl rfl rfl Try.func54 rfl rfl rfl rfl ⟨rfl, rfl, rfl, rfl, rfl, trivial⟩ rfl rfl ?_
    have hb4 := ok_doo 3 st_turn st_turn st_one hb3
    refine s1 6 88 6 rfl rfl rfl rfl rfl rfl trivial ?_
    refine e1 96 rfl ?_
    refine keep [6] rfl ?_
    refine r1 ?_
    refine s1 16 96 1 rfl rfl rfl rfl rfl rfl trivial ?_
    refine c1 (word_any ((((mk [st_me]).set st_one 1).word 13 st_turn st_base 0).doo 3 st_turn st_turn st_one) 14 st_turn st_me 1 hb4 (by decide)) [56, 80, 58, 59, 60] [56, 80, 58, 59, 60, 104] 17 104 2 rfl rfl rfl rfl rfl rfl rfl rfl Try.func52 rfl rfl rfl rfl ⟨rfl, rfl, rfl, rfl, rfl, trivial⟩ rfl rfl ?_
    have hb5 := ok_word 14 st_turn st_me 1 hb4
    refine c1 (ops_any (((((mk [st_me]).set st_one 1).word 13 st_turn st_base 0).doo 3 st_turn st_turn st_one).word 14 st_turn st_me 1) hb5 (by decide)) [56, 104, 58, 59, 60] [56, 104, 58, 59, 60] 18 112 3 rfl rfl rfl rfl rfl rfl rfl rfl Try.func49 rfl rfl rfl rfl ⟨rfl, rfl, rfl, rfl, rfl, trivial⟩ rfl rfl ?_
    refine s1 4 120 4 rfl rfl rfl rfl rfl rfl trivial ?_
    refine s1 5 128 5 rfl rfl rfl rfl rfl rfl trivial ?_
    refine e1 136 rfl ?_
    refine keep [4, 5] rfl ?_
    refine W_ret ?_
    exact out2 4 5 (.sl 0 0 (fin (B_Pin threads slots)).length) (SV.i 0) (π := [104]) (hout := [some (.rows 42 5 (fin (B_Pin threads slots)).length (insF (fin (B_Pin threads slots))))]) Try.results41 rfl rfl rfl rfl rfl rfl ⟨rfl, trivial⟩ ⟨rfl, rfl⟩

theorem ok_Pin {threads slots : Int} (h : 1 ≤ threads ∧ threads ≤ 4 ∧ 1 ≤ slots ∧ slots ≤ 8) : mayB (fin (B_Pin threads slots)) = true ∧ 0 < (fin (B_Pin threads slots)).length ∧ (fin (B_Pin threads slots)).length ≤ 1000 := by
  obtain rfl | rfl | rfl | rfl : threads = 1 ∨ threads = 2 ∨ threads = 3 ∨ threads = 4 := (by omega)
  all_goals (obtain rfl | rfl | rfl | rfl | rfl | rfl | rfl | rfl : slots = 1 ∨ slots = 2 ∨ slots = 3 ∨ slots = 4 ∨ slots = 5 ∨ slots = 6 ∨ slots = 7 ∨ slots = 8 := (by omega))
  all_goals decide +kernel

def B_Unpin (threads slots : Int) : Bld := ((mk [st_me]).word 14 st_base st_me 1)
theorem yes_Unpin (threads slots : Int) (hr : 1 ≤ threads ∧ threads ≤ 4 ∧ 1 ≤ slots ∧ slots ≤ 8) : Spec Try.prog GV 42 [SV.i threads, SV.i slots] [] (fun r ho => r = SV.tup [.sl 0 0 (fin (B_Unpin threads slots)).length, SV.i 0] ∧ ho = [some (.rows 42 5 (fin (B_Unpin threads slots)).length (insF (fin (B_Unpin threads slots))))]) := by
  refine start 14 0 Try.func42 rfl rfl rfl rfl ?_
  refine r1 ?_
  refine s1 4 0 1 rfl rfl rfl rfl rfl rfl trivial ?_
  refine s1 5 8 2 rfl rfl rfl rfl rfl rfl trivial ?_
  refine e1 16 rfl ?_
  refine keep [0, 1] rfl ?_
  refine W_seq ?_
  refine r1 ?_
  refine s1 6 16 1 rfl rfl rfl rfl rfl rfl trivial ?_
  refine s1 7 24 2 rfl rfl rfl rfl rfl rfl trivial ?_
  refine c1 (may_any threads slots) [] [] 8 32 3 rfl rfl rfl rfl rfl rfl rfl rfl Try.func71 rfl rfl rfl rfl trivial rfl rfl ?_
  refine s1 9 40 4 rfl rfl rfl rfl rfl rfl trivial ?_
  refine e1 48 rfl ?_
  refine keep [9] rfl ?_
  refine q1 rfl (fun hc1 => ?_) (fun hc1 => ?_)
  · skip
    exfalso; simp at hc1; omega
  · skip
    try simp only [decide_eq_true_eq, decide_eq_false_iff_not, Bool.not_eq_true', Bool.not_eq_false', beq_iff_eq, bne_iff_ne, beq_eq_false_iff_ne, Bool.and_eq_true, Bool.or_eq_true, Bool.and_eq_false_iff, Bool.or_eq_false_iff, ge_iff_le, gt_iff_lt, Int.not_lt, Int.not_le, ne_eq, Decidable.not_not, bne_eq_false_iff_eq] at hc1
    refine W_skip ?_
    refine tn ?_
    refine r1 ?_
    refine sLit 1 (strsF [st_me]) 10 48 1 rfl rfl rfl rfl rfl rfl rfl rfl rfl (by intro i c hi hc; obtain rfl : i = 0 := (by omega); obtain rfl : c = 0 := (by omega); rfl) ?_
    refine c1 (new_any [st_me] (by decide)) [] [56, 57, 58, 59, 60] 11 56 2 rfl rfl rfl rfl rfl rfl rfl rfl Try.func45 rfl rfl rfl rfl trivial rfl rfl ?_
    have hb1 := ok_mk [st_me]
    refine c1 (word_any (mk [st_me]) 14 st_base st_me 1 hb1 (by decide)) [56, 57, 58, 59, 60] [56, 57, 58, 59, 60, 64] 12 64 3 rfl rfl rfl rfl rfl rfl rfl rfl Try.func52 rfl rfl rfl rfl ⟨rfl, rfl, rfl, rfl, rfl, trivial⟩ rfl rfl ?_
    have hb2 := ok_word 14 st_base st_me 1 hb1
    refine c1 (ops_any ((mk [st_me]).word 14 st_base st_me 1) hb2 (by decide)) [56, 64, 58, 59, 60] [56, 64, 58, 59, 60] 13 72 4 rfl rfl rfl rfl rfl rfl rfl rfl Try.func49 rfl rfl rfl rfl ⟨rfl, rfl, rfl, rfl, rfl, trivial⟩ rfl rfl ?_
    refine s1 4 80 5 rfl rfl rfl rfl rfl rfl trivial ?_
    refine s1 5 88 6 rfl rfl rfl rfl rfl rfl trivial ?_
    refine e1 96 rfl ?_
    refine keep [4, 5] rfl ?_
    refine W_ret ?_
    exact out2 4 5 (.sl 0 0 (fin (B_Unpin threads slots)).length) (SV.i 0) (π := [64]) (hout := [some (.rows 42 5 (fin (B_Unpin threads slots)).length (insF (fin (B_Unpin threads slots))))]) Try.results42 rfl rfl rfl rfl rfl rfl ⟨rfl, trivial⟩ ⟨rfl, rfl⟩

theorem ok_Unpin {threads slots : Int} (h : 1 ≤ threads ∧ threads ≤ 4 ∧ 1 ≤ slots ∧ slots ≤ 8) : mayB (fin (B_Unpin threads slots)) = true ∧ 0 < (fin (B_Unpin threads slots)).length ∧ (fin (B_Unpin threads slots)).length ≤ 1000 := by
  obtain rfl | rfl | rfl | rfl : threads = 1 ∨ threads = 2 ∨ threads = 3 ∨ threads = 4 := (by omega)
  all_goals (obtain rfl | rfl | rfl | rfl | rfl | rfl | rfl | rfl : slots = 1 ∨ slots = 2 ∨ slots = 3 ∨ slots = 4 ∨ slots = 5 ∨ slots = 6 ∨ slots = 7 ∨ slots = 8 := (by omega))
  all_goals decide +kernel

def B_Retire (threads slots : Int) : Bld := (((((((((mk [st_slot]).set st_one 1).mark st_again).word 13 st_now st_base 0).doo 3 st_turn st_now st_one).copy st_next st_turn).cas st_next st_base 0 st_now).iff 12 st_next st_again).word 14 st_turn st_slot (1 + threads))
theorem yes_Retire (threads slots : Int) (hr : 1 ≤ threads ∧ threads ≤ 4 ∧ 1 ≤ slots ∧ slots ≤ 8) : Spec Try.prog GV 43 [SV.i threads, SV.i slots] [] (fun r ho => r = SV.tup [.sl 0 0 (fin (B_Retire threads slots)).length, SV.i 0] ∧ ho = [some (.rows 42 5 (fin (B_Retire threads slots)).length (insF (fin (B_Retire threads slots))))]) := by
  refine start 26 0 Try.func43 rfl rfl rfl rfl ?_
  refine r1 ?_
  refine s1 4 0 1 rfl rfl rfl rfl rfl rfl trivial ?_
  refine s1 5 8 2 rfl rfl rfl rfl rfl rfl trivial ?_
  refine e1 16 rfl ?_
  refine keep [0, 1] rfl ?_
  refine W_seq ?_
  refine r1 ?_
  refine s1 7 16 1 rfl rfl rfl rfl rfl rfl trivial ?_
  refine s1 8 24 2 rfl rfl rfl rfl rfl rfl trivial ?_
  refine c1 (may_any threads slots) [] [] 9 32 3 rfl rfl rfl rfl rfl rfl rfl rfl Try.func71 rfl rfl rfl rfl trivial rfl rfl ?_
  refine s1 10 40 4 rfl rfl rfl rfl rfl rfl trivial ?_
  refine e1 48 rfl ?_
  refine keep [0, 10] rfl ?_
  refine q1 rfl (fun hc1 => ?_) (fun hc1 => ?_)
  · skip
    exfalso; simp at hc1; omega
  · skip
    try simp only [decide_eq_true_eq, decide_eq_false_iff_not, Bool.not_eq_true', Bool.not_eq_false', beq_iff_eq, bne_iff_ne, beq_eq_false_iff_ne, Bool.and_eq_true, Bool.or_eq_true, Bool.and_eq_false_iff, Bool.or_eq_false_iff, ge_iff_le, gt_iff_lt, Int.not_lt, Int.not_le, ne_eq, Decidable.not_not, bne_eq_false_iff_eq] at hc1
    refine W_skip ?_
    refine tn ?_
    refine r1 ?_
    refine sLit 1 (strsF [st_slot]) 11 48 1 rfl rfl rfl rfl rfl rfl rfl rfl rfl (by intro i c hi hc; obtain rfl : i = 0 := (by omega); obtain rfl : c = 0 := (by omega); rfl) ?_
    refine c1 (new_any [st_slot] (by decide)) [] [56, 57, 58, 59, 60] 12 56 2 rfl rfl rfl rfl rfl rfl rfl rfl Try.func45 rfl rfl rfl rfl trivial rfl rfl ?_
    have hb1 := ok_mk [st_slot]
    refine c1 (set_any (mk [st_slot]) st_one 1 hb1 (by decide)) [56, 57, 58, 59, 60] [56, 57, 58, 59, 60, 64] 13 64 3 rfl rfl rfl rfl rfl rfl rfl rfl Try.func46 rfl rfl rfl rfl ⟨rfl, rfl, rfl, rfl, rfl, trivial⟩ rfl rfl ?_
    have hb2 := ok_set st_one 1 hb1
    refine s1 6 72 4 rfl rfl rfl rfl rfl rfl trivial ?_
    refine e1 80 rfl ?_
    refine keep [0, 6] rfl ?_
    refine r1 ?_
    refine s1 14 80 1 rfl rfl rfl rfl rfl rfl trivial ?_
    refine c1 (mark_any ((mk [st_slot]).set st_one 1) st_again hb2 (by decide)) [56, 64, 58, 59, 60] [56, 64, 58, 59, 60] 15 88 2 rfl rfl rfl rfl rfl rfl rfl rfl Try.func53 rfl rfl rfl rfl ⟨rfl, rfl, rfl, rfl, rfl, trivial⟩ rfl rfl ?_
    have hb3 := ok_mark st_again hb2
    refine c1 (word_any (((mk [st_slot]).set st_one 1).mark st_again) 13 st_now st_base 0 hb3 (by decide)) [56, 64, 58, 59, 60] [56, 64, 58, 59, 60, 96] 16 96 3 rfl rfl rfl rfl rfl rfl rfl rfl Try.func52 rfl rfl rfl rfl ⟨rfl, rfl, rfl, rfl, rfl, trivial⟩ rfl rfl ?_
    have hb4 := ok_word 13 st_now st_base 0 hb3
    refine c1 (doo_any ((((mk [st_slot]).set st_one 1).mark st_again).word 13 st_now st_base 0) 3 st_turn st_now st_one hb4 (by decide)) [56, 96, 58, 59, 60] [56, 96, 58, 59, 60, 104] 17 104 4 rfl rfl rfl rfl rfl rfl rfl rfl Try.func54 rfl rfl rfl rfl ⟨rfl, rfl, rfl, rfl, rfl, trivial⟩ rfl rfl ?_
    have hb5 := ok_doo 3 st_turn st_now st_one hb4
    refine c1 (copy_any (((((mk [st_slot]).set st_one 1).mark st_again).word 13 st_now st_base 0).doo 3 st_turn st_now st_one) st_next st_turn hb5 (by decide)) [56, 104, 58, 59, 60] [56, 104, 58, 59, 60, 112] 18 112 5 rfl rfl rfl rfl rfl rfl rfl rfl Try.func70 rfl rfl rfl rfl ⟨rfl, rfl, rfl, rfl, rfl, trivial⟩ rfl rfl ?_
    have hb6 := ok_copy st_next st_turn hb5
    refine c1 (cas_any ((((((mk [st_slot]).set st_one 1).mark st_again).word 13 st_now st_base 0).doo 3 st_turn st_now st_one).copy st_next st_turn) st_next st_base 0 st_now hb6 (by decide)) [56, 112, 58, 59, 60] [56, 112, 58, 59, 60, 120] 19 120 6 rfl rfl rfl rfl rfl rfl rfl rfl Try.func47 rfl rfl rfl rfl ⟨rfl, rfl, rfl, rfl, rfl, trivial⟩ rfl rfl ?_
    have hb7 := ok_cas st_next st_base 0 st_now hb6
    refine c1 (iff_any (((((((mk [st_slot]).set st_one 1).mark st_again).word 13 st_now st_base 0).doo 3 st_turn st_now st_one).copy st_next st_turn).cas st_next st_base 0 st_now) 12 st_next st_again hb7 (by decide)) [56, 120, 58, 59, 60] [56, 120, 58, 59, 60, 128, 129] 20 128 7 rfl rfl rfl rfl rfl rfl rfl rfl Try.func55 rfl rfl rfl rfl ⟨rfl, rfl, rfl, rfl, rfl, trivial⟩ rfl rfl ?_
    have hb8 := ok_iff 12 st_next st_again hb7
    refine e1 136 rfl ?_
    refine keep [0, 6] rfl ?_
    refine r1 ?_
    refine s1 21 136 1 rfl rfl rfl rfl rfl rfl trivial ?_
    refine s1 22 144 2 rfl rfl rfl rfl rfl rfl trivial ?_
    refine sA 23 152 3 rfl rfl rfl rfl rfl rfl rfl rfl rfl (by unfold inRange; omega) ?_
    refine c1 (word_any ((((((((mk [st_slot]).set st_one 1).mark st_again).word 13 st_now st_base 0).doo 3 st_turn st_now st_one).copy st_next st_turn).cas st_next st_base 0 st_now).iff 12 st_next st_again) 14 st_turn st_slot (1 + threads) hb8 (by decide)) [56, 129, 58, 128, 60] [56, 129, 58, 128, 60, 160] 24 160 4 rfl rfl rfl rfl rfl rfl rfl rfl Try.func52 rfl rfl rfl rfl ⟨rfl, rfl, rfl, rfl, rfl, trivial⟩ rfl rfl ?_
    have hb9 := ok_word 14 st_turn st_slot (1 + threads) hb8
    refine c1 (ops_any (((((((((mk [st_slot]).set st_one 1).mark st_again).word 13 st_now st_base 0).doo 3 st_turn st_now st_one).copy st_next st_turn).cas st_next st_base 0 st_now).iff 12 st_next st_again).word 14 st_turn st_slot (1 + threads)) hb9 (by decide)) [56, 160, 58, 128, 60] [56, 160, 58, 128, 60] 25 168 5 rfl rfl rfl rfl rfl rfl rfl rfl Try.func49 rfl rfl rfl rfl ⟨rfl, rfl, rfl, rfl, rfl, trivial⟩ rfl rfl ?_
    refine s1 4 176 6 rfl rfl rfl rfl rfl rfl trivial ?_
    refine s1 5 184 7 rfl rfl rfl rfl rfl rfl trivial ?_
    refine e1 192 rfl ?_
    refine keep [4, 5] rfl ?_
    refine W_ret ?_
    exact out2 4 5 (.sl 0 0 (fin (B_Retire threads slots)).length) (SV.i 0) (π := [160]) (hout := [some (.rows 42 5 (fin (B_Retire threads slots)).length (insF (fin (B_Retire threads slots))))]) Try.results43 rfl rfl rfl rfl rfl rfl ⟨rfl, trivial⟩ ⟨rfl, rfl⟩

theorem ok_Retire {threads slots : Int} (h : 1 ≤ threads ∧ threads ≤ 4 ∧ 1 ≤ slots ∧ slots ≤ 8) : mayB (fin (B_Retire threads slots)) = true ∧ 0 < (fin (B_Retire threads slots)).length ∧ (fin (B_Retire threads slots)).length ≤ 1000 := by
  obtain rfl | rfl | rfl | rfl : threads = 1 ∨ threads = 2 ∨ threads = 3 ∨ threads = 4 := (by omega)
  all_goals (obtain rfl | rfl | rfl | rfl | rfl | rfl | rfl | rfl : slots = 1 ∨ slots = 2 ∨ slots = 3 ∨ slots = 4 ∨ slots = 5 ∨ slots = 6 ∨ slots = 7 ∨ slots = 8 := (by omega))
  all_goals decide +kernel

def B_Free (threads slots : Int) : Bld := (((((((((((((((((((((((((((((mk []).set st_one 1).set st_slots slots).set st_threads threads).set st_slot (-1)).mark st_slot).doo 3 st_slot st_slot st_one).doo 9 st_more st_slot st_slots).iff 12 st_more st_none).word 13 st_turn st_slot (1 + threads)).iff 12 st_turn st_slot).set st_who (-1)).mark st_who).doo 3 st_who st_who st_one).doo 9 st_more st_who st_threads).iff 12 st_more st_take).word 13 st_pin st_who 1).iff 12 st_pin st_who).doo 9 st_later st_turn st_pin).iff 11 st_later st_who).jmp st_slot).mark st_take).set st_next 0).cas st_next st_slot (1 + threads) st_turn).iff 12 st_next st_slot).tell st_slot).done.mark st_none).set st_slot (-1)).tell st_slot)
theorem yes_Free (threads slots : Int) (hr : 1 ≤ threads ∧ threads ≤ 4 ∧ 1 ≤ slots ∧ slots ≤ 8) : Spec Try.prog GV 44 [SV.i threads, SV.i slots] [] (fun r ho => r = SV.tup [.sl 0 0 (fin (B_Free threads slots)).length, SV.i 0] ∧ ho = [some (.rows 42 5 (fin (B_Free threads slots)).length (insF (fin (B_Free threads slots))))]) := by
  refine start 57 0 Try.func44 rfl rfl rfl rfl ?_
  refine r1 ?_
  refine s1 4 0 1 rfl rfl rfl rfl rfl rfl trivial ?_
  refine s1 5 8 2 rfl rfl rfl rfl rfl rfl trivial ?_
  refine e1 16 rfl ?_
  refine keep [0, 1] rfl ?_
  refine W_seq ?_
  refine r1 ?_
  refine s1 7 16 1 rfl rfl rfl rfl rfl rfl trivial ?_
  refine s1 8 24 2 rfl rfl rfl rfl rfl rfl trivial ?_
  refine c1 (may_any threads slots) [] [] 9 32 3 rfl rfl rfl rfl rfl rfl rfl rfl Try.func71 rfl rfl rfl rfl trivial rfl rfl ?_
  refine s1 10 40 4 rfl rfl rfl rfl rfl rfl trivial ?_
  refine e1 48 rfl ?_
  refine keep [0, 1, 10] rfl ?_
  refine q1 rfl (fun hc1 => ?_) (fun hc1 => ?_)
  · skip
    exfalso; simp at hc1; omega
  · skip
    try simp only [decide_eq_true_eq, decide_eq_false_iff_not, Bool.not_eq_true', Bool.not_eq_false', beq_iff_eq, bne_iff_ne, beq_eq_false_iff_ne, Bool.and_eq_true, Bool.or_eq_true, Bool.and_eq_false_iff, Bool.or_eq_false_iff, ge_iff_le, gt_iff_lt, Int.not_lt, Int.not_le, ne_eq, Decidable.not_not, bne_eq_false_iff_eq] at hc1
    refine W_skip ?_
    refine tn ?_
    refine r1 ?_
    refine c1 (nil_any) [] [48, 49, 50, 51, 52] 11 48 1 rfl rfl rfl rfl rfl rfl rfl rfl Try.func45 rfl rfl rfl rfl trivial rfl rfl ?_
    have hb1 := ok_mk []
    refine c1 (set_any (mk []) st_one 1 hb1 (by decide)) [48, 49, 50, 51, 52] [48, 49, 50, 51, 52, 56] 12 56 2 rfl rfl rfl rfl rfl rfl rfl rfl Try.func46 rfl rfl rfl rfl ⟨rfl, rfl, rfl, rfl, rfl, trivial⟩ rfl rfl ?_
    have hb2 := ok_set st_one 1 hb1
    refine s1 13 64 3 rfl rfl rfl rfl rfl rfl trivial ?_
    refine c1 (set_any ((mk []).set st_one 1) st_slots slots hb2 (by decide)) [48, 56, 50, 51, 52] [48, 56, 50, 51, 52, 72] 14 72 4 rfl rfl rfl rfl rfl rfl rfl rfl Try.func46 rfl rfl rfl rfl ⟨rfl, rfl, rfl, rfl, rfl, trivial⟩ rfl rfl ?_
    have hb3 := ok_set st_slots slots hb2
    refine s1 15 80 5 rfl rfl rfl rfl rfl rfl trivial ?_
    refine c1 (set_any (((mk []).set st_one 1).set st_slots slots) st_threads threads hb3 (by decide)) [48, 72, 50, 51, 52] [48, 72, 50, 51, 52, 88] 16 88 6 rfl rfl rfl rfl rfl rfl rfl rfl Try.func46 rfl rfl rfl rfl ⟨rfl, rfl, rfl, rfl, rfl, trivial⟩ rfl rfl ?_
    have hb4 := ok_set st_threads threads hb3
    refine c1 (set_any ((((mk []).set st_one 1).set st_slots slots).set st_threads threads) st_slot (-1) hb4 (by decide)) [48, 88, 50, 51, 52] [48, 88, 50, 51, 52, 96] 17 96 7 rfl rfl rfl rfl rfl rfl rfl rfl Try.func46 rfl rfl rfl rfl ⟨rfl, rfl, rfl, rfl, rfl, trivial⟩ rfl rfl ?_
    have hb5 := ok_set st_slot (-1) hb4
    refine s1 6 104 8 rfl rfl rfl rfl rfl rfl trivial ?_
    refine e1 112 rfl ?_
    refine keep [0, 6] rfl ?_
    refine r1 ?_
    refine s1 18 112 1 rfl rfl rfl rfl rfl rfl trivial ?_
    refine c1 (mark_any (((((mk []).set st_one 1).set st_slots slots).set st_threads threads).set st_slot (-1)) st_slot hb5 (by decide)) [48, 96, 50, 51, 52] [48, 96, 50, 51, 52] 19 120 2 rfl rfl rfl rfl rfl rfl rfl rfl Try.func53 rfl rfl rfl rfl ⟨rfl, rfl, rfl, rfl, rfl, trivial⟩ rfl rfl ?_
    have hb6 := ok_mark st_slot hb5
    refine c1 (doo_any ((((((mk []).set st_one 1).set st_slots slots).set st_threads threads).set st_slot (-1)).mark st_slot) 3 st_slot st_slot st_one hb6 (by decide)) [48, 96, 50, 51, 52] [48, 96, 50, 51, 52, 128] 20 128 3 rfl rfl rfl rfl rfl rfl rfl rfl Try.func54 rfl rfl rfl rfl ⟨rfl, rfl, rfl, rfl, rfl, trivial⟩ rfl rfl ?_
    have hb7 := ok_doo 3 st_slot st_slot st_one hb6
    refine c1 (doo_any (((((((mk []).set st_one 1).set st_slots slots).set st_threads threads).set st_slot (-1)).mark st_slot).doo 3 st_slot st_slot st_one) 9 st_more st_slot st_slots hb7 (by decide)) [48, 128, 50, 51, 52] [48, 128, 50, 51, 52, 136] 21 136 4 rfl rfl rfl rfl rfl rfl rfl rfl Try.func54 rfl rfl rfl rfl ⟨rfl, rfl, rfl, rfl, rfl, trivial⟩ rfl rfl ?_
    have hb8 := ok_doo 9 st_more st_slot st_slots hb7
    refine c1 (iff_any ((((((((mk []).set st_one 1).set st_slots slots).set st_threads threads).set st_slot (-1)).mark st_slot).doo 3 st_slot st_slot st_one).doo 9 st_more st_slot st_slots) 12 st_more st_none hb8 (by decide)) [48, 136, 50, 51, 52] [48, 136, 50, 51, 52, 144, 145] 22 144 5 rfl rfl rfl rfl rfl rfl rfl rfl Try.func55 rfl rfl rfl rfl ⟨rfl, rfl, rfl, rfl, rfl, trivial⟩ rfl rfl ?_
    have hb9 := ok_iff 12 st_more st_none hb8
    refine e1 152 rfl ?_
    refine keep [0, 6] rfl ?_
    refine r1 ?_
    refine s1 23 152 1 rfl rfl rfl rfl rfl rfl trivial ?_
    refine s1 24 160 2 rfl rfl rfl rfl rfl rfl trivial ?_
    refine sA 25 168 3 rfl rfl rfl rfl rfl rfl rfl rfl rfl (by unfold inRange; omega) ?_
    refine c1 (word_any (((((((((mk []).set st_one 1).set st_slots slots).set st_threads threads).set st_slot (-1)).mark st_slot).doo 3 st_slot st_slot st_one).doo 9 st_more st_slot st_slots).iff 12 st_more st_none) 13 st_turn st_slot (1 + threads) hb9 (by decide)) [48, 145, 50, 144, 52] [48, 145, 50, 144, 52, 176] 26 176 4 rfl rfl rfl rfl rfl rfl rfl rfl Try.func52 rfl rfl rfl rfl ⟨rfl, rfl, rfl, rfl, rfl, trivial⟩ rfl rfl ?_
    have hb10 := ok_word 13 st_turn st_slot (1 + threads) hb9
    refine c1 (iff_any ((((((((((mk []).set st_one 1).set st_slots slots).set st_threads threads).set st_slot (-1)).mark st_slot).doo 3 st_slot st_slot st_one).doo 9 st_more st_slot st_slots).iff 12 st_more st_none).word 13 st_turn st_slot (1 + threads)) 12 st_turn st_slot hb10 (by decide)) [48, 176, 50, 144, 52] [48, 176, 50, 144, 52, 184, 185] 27 184 5 rfl rfl rfl rfl rfl rfl rfl rfl Try.func55 rfl rfl rfl rfl ⟨rfl, rfl, rfl, rfl, rfl, trivial⟩ rfl rfl ?_
    have hb11 := ok_iff 12 st_turn st_slot hb10
    refine c1 (set_any (((((((((((mk []).set st_one 1).set st_slots slots).set st_threads threads).set st_slot (-1)).mark st_slot).doo 3 st_slot st_slot st_one).doo 9 st_more st_slot st_slots).iff 12 st_more st_none).word 13 st_turn st_slot (1 + threads)).iff 12 st_turn st_slot) st_who (-1) hb11 (by decide)) [48, 185, 50, 184, 52] [48, 185, 50, 184, 52, 192] 28 192 6 rfl rfl rfl rfl rfl rfl rfl rfl Try.func46 rfl rfl rfl rfl ⟨rfl, rfl, rfl, rfl, rfl, trivial⟩ rfl rfl ?_
    have hb12 := ok_set st_who (-1) hb11
    refine e1 200 rfl ?_
    refine keep [0, 6] rfl ?_
    refine r1 ?_
    refine s1 29 200 1 rfl rfl rfl rfl rfl rfl trivial ?_
    refine c1 (mark_any ((((((((((((mk []).set st_one 1).set st_slots slots).set st_threads threads).set st_slot (-1)).mark st_slot).doo 3 st_slot st_slot st_one).doo 9 st_more st_slot st_slots).iff 12 st_more st_none).word 13 st_turn st_slot (1 + threads)).iff 12 st_turn st_slot).set st_who (-1)) st_who hb12 (by decide)) [48, 192, 50, 184, 52] [48, 192, 50, 184, 52] 30 208 2 rfl rfl rfl rfl rfl rfl rfl rfl Try.func53 rfl rfl rfl rfl ⟨rfl, rfl, rfl, rfl, rfl, trivial⟩ rfl rfl ?_
    have hb13 := ok_mark st_who hb12
    refine c1 (doo_any (((((((((((((mk []).set st_one 1).set st_slots slots).set st_threads threads).set st_slot (-1)).mark st_slot).doo 3 st_slot st_slot st_one).doo 9 st_more st_slot st_slots).iff 12 st_more st_none).word 13 st_turn st_slot (1 + threads)).iff 12 st_turn st_slot).set st_who (-1)).mark st_who) 3 st_who st_who st_one hb13 (by decide)) [48, 192, 50, 184, 52] [48, 192, 50, 184, 52, 216] 31 216 3 rfl rfl rfl rfl rfl rfl rfl rfl Try.func54 rfl rfl rfl rfl ⟨rfl, rfl, rfl, rfl, rfl, trivial⟩ rfl rfl ?_
    have hb14 := ok_doo 3 st_who st_who st_one hb13
    refine c1 (doo_any ((((((((((((((mk []).set st_one 1).set st_slots slots).set st_threads threads).set st_slot (-1)).mark st_slot).doo 3 st_slot st_slot st_one).doo 9 st_more st_slot st_slots).iff 12 st_more st_none).word 13 st_turn st_slot (1 + threads)).iff 12 st_turn st_slot).set st_who (-1)).mark st_who).doo 3 st_who st_who st_one) 9 st_more st_who st_threads hb14 (by decide)) [48, 216, 50, 184, 52] [48, 216, 50, 184, 52, 224] 32 224 4 rfl rfl rfl rfl rfl rfl rfl rfl Try.func54 rfl rfl rfl rfl ⟨rfl, rfl, rfl, rfl, rfl, trivial⟩ rfl rfl ?_
    have hb15 := ok_doo 9 st_more st_who st_threads hb14
    refine c1 (iff_any (((((((((((((((mk []).set st_one 1).set st_slots slots).set st_threads threads).set st_slot (-1)).mark st_slot).doo 3 st_slot st_slot st_one).doo 9 st_more st_slot st_slots).iff 12 st_more st_none).word 13 st_turn st_slot (1 + threads)).iff 12 st_turn st_slot).set st_who (-1)).mark st_who).doo 3 st_who st_who st_one).doo 9 st_more st_who st_threads) 12 st_more st_take hb15 (by decide)) [48, 224, 50, 184, 52] [48, 224, 50, 184, 52, 232, 233] 33 232 5 rfl rfl rfl rfl rfl rfl rfl rfl Try.func55 rfl rfl rfl rfl ⟨rfl, rfl, rfl, rfl, rfl, trivial⟩ rfl rfl ?_
    have hb16 := ok_iff 12 st_more st_take hb15
    refine e1 240 rfl ?_
    refine keep [0, 6] rfl ?_
    refine r1 ?_
    refine s1 34 240 1 rfl rfl rfl rfl rfl rfl trivial ?_
    refine c1 (word_any ((((((((((((((((mk []).set st_one 1).set st_slots slots).set st_threads threads).set st_slot (-1)).mark st_slot).doo 3 st_slot st_slot st_one).doo 9 st_more st_slot st_slots).iff 12 st_more st_none).word 13 st_turn st_slot (1 + threads)).iff 12 st_turn st_slot).set st_who (-1)).mark st_who).doo 3 st_who st_who st_one).doo 9 st_more st_who st_threads).iff 12 st_more st_take) 13 st_pin st_who 1 hb16 (by decide)) [48, 233, 50, 232, 52] [48, 233, 50, 232, 52, 248] 35 248 2 rfl rfl rfl rfl rfl rfl rfl rfl Try.func52 rfl rfl rfl rfl ⟨rfl, rfl, rfl, rfl, rfl, trivial⟩ rfl rfl ?_
    have hb17 := ok_word 13 st_pin st_who 1 hb16
    refine c1 (iff_any (((((((((((((((((mk []).set st_one 1).set st_slots slots).set st_threads threads).set st_slot (-1)).mark st_slot).doo 3 st_slot st_slot st_one).doo 9 st_more st_slot st_slots).iff 12 st_more st_none).word 13 st_turn st_slot (1 + threads)).iff 12 st_turn st_slot).set st_who (-1)).mark st_who).doo 3 st_who st_who st_one).doo 9 st_more st_who st_threads).iff 12 st_more st_take).word 13 st_pin st_who 1) 12 st_pin st_who hb17 (by decide)) [48, 248, 50, 232, 52] [48, 248, 50, 232, 52, 256, 257] 36 256 3 rfl rfl rfl rfl rfl rfl rfl rfl Try.func55 rfl rfl rfl rfl ⟨rfl, rfl, rfl, rfl, rfl, trivial⟩ rfl rfl ?_
    have hb18 := ok_iff 12 st_pin st_who hb17
    refine e1 264 rfl ?_
    refine keep [0, 6] rfl ?_
    refine r1 ?_
    refine s1 37 264 1 rfl rfl rfl rfl rfl rfl trivial ?_
    refine c1 (doo_any ((((((((((((((((((mk []).set st_one 1).set st_slots slots).set st_threads threads).set st_slot (-1)).mark st_slot).doo 3 st_slot st_slot st_one).doo 9 st_more st_slot st_slots).iff 12 st_more st_none).word 13 st_turn st_slot (1 + threads)).iff 12 st_turn st_slot).set st_who (-1)).mark st_who).doo 3 st_who st_who st_one).doo 9 st_more st_who st_threads).iff 12 st_more st_take).word 13 st_pin st_who 1).iff 12 st_pin st_who) 9 st_later st_turn st_pin hb18 (by decide)) [48, 257, 50, 256, 52] [48, 257, 50, 256, 52, 272] 38 272 2 rfl rfl rfl rfl rfl rfl rfl rfl Try.func54 rfl rfl rfl rfl ⟨rfl, rfl, rfl, rfl, rfl, trivial⟩ rfl rfl ?_
    have hb19 := ok_doo 9 st_later st_turn st_pin hb18
    refine c1 (iff_any (((((((((((((((((((mk []).set st_one 1).set st_slots slots).set st_threads threads).set st_slot (-1)).mark st_slot).doo 3 st_slot st_slot st_one).doo 9 st_more st_slot st_slots).iff 12 st_more st_none).word 13 st_turn st_slot (1 + threads)).iff 12 st_turn st_slot).set st_who (-1)).mark st_who).doo 3 st_who st_who st_one).doo 9 st_more st_who st_threads).iff 12 st_more st_take).word 13 st_pin st_who 1).iff 12 st_pin st_who).doo 9 st_later st_turn st_pin) 11 st_later st_who hb19 (by decide)) [48, 272, 50, 256, 52] [48, 272, 50, 256, 52, 280, 281] 39 280 3 rfl rfl rfl rfl rfl rfl rfl rfl Try.func55 rfl rfl rfl rfl ⟨rfl, rfl, rfl, rfl, rfl, trivial⟩ rfl rfl ?_
    have hb20 := ok_iff 11 st_later st_who hb19
    refine c1 (jmp_any ((((((((((((((((((((mk []).set st_one 1).set st_slots slots).set st_threads threads).set st_slot (-1)).mark st_slot).doo 3 st_slot st_slot st_one).doo 9 st_more st_slot st_slots).iff 12 st_more st_none).word 13 st_turn st_slot (1 + threads)).iff 12 st_turn st_slot).set st_who (-1)).mark st_who).doo 3 st_who st_who st_one).doo 9 st_more st_who st_threads).iff 12 st_more st_take).word 13 st_pin st_who 1).iff 12 st_pin st_who).doo 9 st_later st_turn st_pin).iff 11 st_later st_who) st_slot hb20 (by decide)) [48, 281, 50, 280, 52] [48, 281, 50, 280, 52, 288, 289] 40 288 4 rfl rfl rfl rfl rfl rfl rfl rfl Try.func65 rfl rfl rfl rfl ⟨rfl, rfl, rfl, rfl, rfl, trivial⟩ rfl rfl ?_
    have hb21 := ok_jmp st_slot hb20
    refine e1 296 rfl ?_
    refine keep [0, 6] rfl ?_
    refine r1 ?_
    refine s1 41 296 1 rfl rfl rfl rfl rfl rfl trivial ?_
    refine c1 (mark_any (((((((((((((((((((((mk []).set st_one 1).set st_slots slots).set st_threads threads).set st_slot (-1)).mark st_slot).doo 3 st_slot st_slot st_one).doo 9 st_more st_slot st_slots).iff 12 st_more st_none).word 13 st_turn st_slot (1 + threads)).iff 12 st_turn st_slot).set st_who (-1)).mark st_who).doo 3 st_who st_who st_one).doo 9 st_more st_who st_threads).iff 12 st_more st_take).word 13 st_pin st_who 1).iff 12 st_pin st_who).doo 9 st_later st_turn st_pin).iff 11 st_later st_who).jmp st_slot) st_take hb21 (by decide)) [48, 289, 50, 288, 52] [48, 289, 50, 288, 52] 42 304 2 rfl rfl rfl rfl rfl rfl rfl rfl Try.func53 rfl rfl rfl rfl ⟨rfl, rfl, rfl, rfl, rfl, trivial⟩ rfl rfl ?_
    have hb22 := ok_mark st_take hb21
    refine c1 (set_any ((((((((((((((((((((((mk []).set st_one 1).set st_slots slots).set st_threads threads).set st_slot (-1)).mark st_slot).doo 3 st_slot st_slot st_one).doo 9 st_more st_slot st_slots).iff 12 st_more st_none).word 13 st_turn st_slot (1 + threads)).iff 12 st_turn st_slot).set st_who (-1)).mark st_who).doo 3 st_who st_who st_one).doo 9 st_more st_who st_threads).iff 12 st_more st_take).word 13 st_pin st_who 1).iff 12 st_pin st_who).doo 9 st_later st_turn st_pin).iff 11 st_later st_who).jmp st_slot).mark st_take) st_next 0 hb22 (by decide)) [48, 289, 50, 288, 52] [48, 289, 50, 288, 52, 312] 43 312 3 rfl rfl rfl rfl rfl rfl rfl rfl Try.func46 rfl rfl rfl rfl ⟨rfl, rfl, rfl, rfl, rfl, trivial⟩ rfl rfl ?_
    have hb23 := ok_set st_next 0 hb22
    refine s1 44 320 4 rfl rfl rfl rfl rfl rfl trivial ?_
    refine sA 45 328 5 rfl rfl rfl rfl rfl rfl rfl rfl rfl (by unfold inRange; omega) ?_
    refine c1 (cas_any (((((((((((((((((((((((mk []).set st_one 1).set st_slots slots).set st_threads threads).set st_slot (-1)).mark st_slot).doo 3 st_slot st_slot st_one).doo 9 st_more st_slot st_slots).iff 12 st_more st_none).word 13 st_turn st_slot (1 + threads)).iff 12 st_turn st_slot).set st_who (-1)).mark st_who).doo 3 st_who st_who st_one).doo 9 st_more st_who st_threads).iff 12 st_more st_take).word 13 st_pin st_who 1).iff 12 st_pin st_who).doo 9 st_later st_turn st_pin).iff 11 st_later st_who).jmp st_slot).mark st_take).set st_next 0) st_next st_slot (1 + threads) st_turn hb23 (by decide)) [48, 312, 50, 288, 52] [48, 312, 50, 288, 52, 336] 46 336 6 rfl rfl rfl rfl rfl rfl rfl rfl Try.func47 rfl rfl rfl rfl ⟨rfl, rfl, rfl, rfl, rfl, trivial⟩ rfl rfl ?_
    have hb24 := ok_cas st_next st_slot (1 + threads) st_turn hb23
    refine c1 (iff_any ((((((((((((((((((((((((mk []).set st_one 1).set st_slots slots).set st_threads threads).set st_slot (-1)).mark st_slot).doo 3 st_slot st_slot st_one).doo 9 st_more st_slot st_slots).iff 12 st_more st_none).word 13 st_turn st_slot (1 + threads)).iff 12 st_turn st_slot).set st_who (-1)).mark st_who).doo 3 st_who st_who st_one).doo 9 st_more st_who st_threads).iff 12 st_more st_take).word 13 st_pin st_who 1).iff 12 st_pin st_who).doo 9 st_later st_turn st_pin).iff 11 st_later st_who).jmp st_slot).mark st_take).set st_next 0).cas st_next st_slot (1 + threads) st_turn) 12 st_next st_slot hb24 (by decide)) [48, 336, 50, 288, 52] [48, 336, 50, 288, 52, 344, 345] 47 344 7 rfl rfl rfl rfl rfl rfl rfl rfl Try.func55 rfl rfl rfl rfl ⟨rfl, rfl, rfl, rfl, rfl, trivial⟩ rfl rfl ?_
    have hb25 := ok_iff 12 st_next st_slot hb24
    refine e1 352 rfl ?_
    refine keep [6] rfl ?_
    refine r1 ?_
    refine s1 48 352 1 rfl rfl rfl rfl rfl rfl trivial ?_
    refine sLit 1 (strsF [st_slot]) 49 360 2 rfl rfl rfl rfl rfl rfl rfl rfl rfl (by intro i c hi hc; obtain rfl : i = 0 := (by omega); obtain rfl : c = 0 := (by omega); rfl) ?_
    refine c1 (tell_any (((((((((((((((((((((((((mk []).set st_one 1).set st_slots slots).set st_threads threads).set st_slot (-1)).mark st_slot).doo 3 st_slot st_slot st_one).doo 9 st_more st_slot st_slots).iff 12 st_more st_none).word 13 st_turn st_slot (1 + threads)).iff 12 st_turn st_slot).set st_who (-1)).mark st_who).doo 3 st_who st_who st_one).doo 9 st_more st_who st_threads).iff 12 st_more st_take).word 13 st_pin st_who 1).iff 12 st_pin st_who).doo 9 st_later st_turn st_pin).iff 11 st_later st_who).jmp st_slot).mark st_take).set st_next 0).cas st_next st_slot (1 + threads) st_turn).iff 12 st_next st_slot) st_slot hb25 (by decide)) [48, 345, 50, 344, 52] [48, 345, 50, 344, 52, 368] 50 368 3 rfl rfl rfl rfl rfl rfl rfl rfl Try.func48 rfl rfl rfl rfl ⟨rfl, rfl, rfl, rfl, rfl, trivial⟩ rfl rfl ?_
    have hb26 := ok_tell st_slot hb25
    refine c1 (done_any ((((((((((((((((((((((((((mk []).set st_one 1).set st_slots slots).set st_threads threads).set st_slot (-1)).mark st_slot).doo 3 st_slot st_slot st_one).doo 9 st_more st_slot st_slots).iff 12 st_more st_none).word 13 st_turn st_slot (1 + threads)).iff 12 st_turn st_slot).set st_who (-1)).mark st_who).doo 3 st_who st_who st_one).doo 9 st_more st_who st_threads).iff 12 st_more st_take).word 13 st_pin st_who 1).iff 12 st_pin st_who).doo 9 st_later st_turn st_pin).iff 11 st_later st_who).jmp st_slot).mark st_take).set st_next 0).cas st_next st_slot (1 + threads) st_turn).iff 12 st_next st_slot).tell st_slot)  hb26 (by decide)) [48, 368, 50, 344, 52] [48, 368, 50, 344, 52, 376] 51 376 4 rfl rfl rfl rfl rfl rfl rfl rfl Try.func63 rfl rfl rfl rfl ⟨rfl, rfl, rfl, rfl, rfl, trivial⟩ rfl rfl ?_
    have hb27 := ok_done  hb26
    refine c1 (mark_any ((((((((((((((((((((((((((mk []).set st_one 1).set st_slots slots).set st_threads threads).set st_slot (-1)).mark st_slot).doo 3 st_slot st_slot st_one).doo 9 st_more st_slot st_slots).iff 12 st_more st_none).word 13 st_turn st_slot (1 + threads)).iff 12 st_turn st_slot).set st_who (-1)).mark st_who).doo 3 st_who st_who st_one).doo 9 st_more st_who st_threads).iff 12 st_more st_take).word 13 st_pin st_who 1).iff 12 st_pin st_who).doo 9 st_later st_turn st_pin).iff 11 st_later st_who).jmp st_slot).mark st_take).set st_next 0).cas st_next st_slot (1 + threads) st_turn).iff 12 st_next st_slot).tell st_slot).done st_none hb27 (by decide)) [48, 376, 50, 344, 52] [48, 376, 50, 344, 52] 52 384 5 rfl rfl rfl rfl rfl rfl rfl rfl Try.func53 rfl rfl rfl rfl ⟨rfl, rfl, rfl, rfl, rfl, trivial⟩ rfl rfl ?_
    have hb28 := ok_mark st_none hb27
    refine c1 (set_any (((((((((((((((((((((((((((mk []).set st_one 1).set st_slots slots).set st_threads threads).set st_slot (-1)).mark st_slot).doo 3 st_slot st_slot st_one).doo 9 st_more st_slot st_slots).iff 12 st_more st_none).word 13 st_turn st_slot (1 + threads)).iff 12 st_turn st_slot).set st_who (-1)).mark st_who).doo 3 st_who st_who st_one).doo 9 st_more st_who st_threads).iff 12 st_more st_take).word 13 st_pin st_who 1).iff 12 st_pin st_who).doo 9 st_later st_turn st_pin).iff 11 st_later st_who).jmp st_slot).mark st_take).set st_next 0).cas st_next st_slot (1 + threads) st_turn).iff 12 st_next st_slot).tell st_slot).done.mark st_none) st_slot (-1) hb28 (by decide)) [48, 376, 50, 344, 52] [48, 376, 50, 344, 52, 392] 53 392 6 rfl rfl rfl rfl rfl rfl rfl rfl Try.func46 rfl rfl rfl rfl ⟨rfl, rfl, rfl, rfl, rfl, trivial⟩ rfl rfl ?_
    have hb29 := ok_set st_slot (-1) hb28
    refine sLit 1 (strsF [st_slot]) 54 400 7 rfl rfl rfl rfl rfl rfl rfl rfl rfl (by intro i c hi hc; obtain rfl : i = 0 := (by omega); obtain rfl : c = 0 := (by omega); rfl) ?_
    refine c1 (tell_any ((((((((((((((((((((((((((((mk []).set st_one 1).set st_slots slots).set st_threads threads).set st_slot (-1)).mark st_slot).doo 3 st_slot st_slot st_one).doo 9 st_more st_slot st_slots).iff 12 st_more st_none).word 13 st_turn st_slot (1 + threads)).iff 12 st_turn st_slot).set st_who (-1)).mark st_who).doo 3 st_who st_who st_one).doo 9 st_more st_who st_threads).iff 12 st_more st_take).word 13 st_pin st_who 1).iff 12 st_pin st_who).doo 9 st_later st_turn st_pin).iff 11 st_later st_who).jmp st_slot).mark st_take).set st_next 0).cas st_next st_slot (1 + threads) st_turn).iff 12 st_next st_slot).tell st_slot).done.mark st_none).set st_slot (-1)) st_slot hb29 (by decide)) [48, 392, 50, 344, 52] [48, 392, 50, 344, 52, 408] 55 408 8 rfl rfl rfl rfl rfl rfl rfl rfl Try.func48 rfl rfl rfl rfl ⟨rfl, rfl, rfl, rfl, rfl, trivial⟩ rfl rfl ?_
    have hb30 := ok_tell st_slot hb29
    refine c1 (ops_any (((((((((((((((((((((((((((((mk []).set st_one 1).set st_slots slots).set st_threads threads).set st_slot (-1)).mark st_slot).doo 3 st_slot st_slot st_one).doo 9 st_more st_slot st_slots).iff 12 st_more st_none).word 13 st_turn st_slot (1 + threads)).iff 12 st_turn st_slot).set st_who (-1)).mark st_who).doo 3 st_who st_who st_one).doo 9 st_more st_who st_threads).iff 12 st_more st_take).word 13 st_pin st_who 1).iff 12 st_pin st_who).doo 9 st_later st_turn st_pin).iff 11 st_later st_who).jmp st_slot).mark st_take).set st_next 0).cas st_next st_slot (1 + threads) st_turn).iff 12 st_next st_slot).tell st_slot).done.mark st_none).set st_slot (-1)).tell st_slot) hb30 (by decide)) [48, 408, 50, 344, 52] [48, 408, 50, 344, 52] 56 416 9 rfl rfl rfl rfl rfl rfl rfl rfl Try.func49 rfl rfl rfl rfl ⟨rfl, rfl, rfl, rfl, rfl, trivial⟩ rfl rfl ?_
    refine s1 4 424 10 rfl rfl rfl rfl rfl rfl trivial ?_
    refine s1 5 432 11 rfl rfl rfl rfl rfl rfl trivial ?_
    refine e1 440 rfl ?_
    refine keep [4, 5] rfl ?_
    refine W_ret ?_
    exact out2 4 5 (.sl 0 0 (fin (B_Free threads slots)).length) (SV.i 0) (π := [408]) (hout := [some (.rows 42 5 (fin (B_Free threads slots)).length (insF (fin (B_Free threads slots))))]) Try.results44 rfl rfl rfl rfl rfl rfl ⟨rfl, trivial⟩ ⟨rfl, rfl⟩

theorem ok_Free {threads slots : Int} (h : 1 ≤ threads ∧ threads ≤ 4 ∧ 1 ≤ slots ∧ slots ≤ 8) : mayB (fin (B_Free threads slots)) = true ∧ 0 < (fin (B_Free threads slots)).length ∧ (fin (B_Free threads slots)).length ≤ 1000 := by
  obtain rfl | rfl | rfl | rfl : threads = 1 ∨ threads = 2 ∨ threads = 3 ∨ threads = 4 := (by omega)
  all_goals (obtain rfl | rfl | rfl | rfl | rfl | rfl | rfl | rfl : slots = 1 ∨ slots = 2 ∨ slots = 3 ∨ slots = 4 ∨ slots = 5 ∨ slots = 6 ∨ slots = 7 ∨ slots = 8 := (by omega))
  all_goals decide +kernel

theorem law_yes (threads slots : Int) (hr : 1 ≤ threads ∧ threads ≤ 4 ∧ 1 ≤ slots ∧ slots ≤ 8) : Spec Try.prog GV 12 [SV.i threads, SV.i slots] [] (fun r _ => r = SV.b true) := by
  refine start 158 0 Try.func12 rfl rfl rfl rfl ?_
  refine r1 ?_
  refine s1 4 0 1 rfl rfl rfl rfl rfl rfl trivial ?_
  refine e1 8 rfl ?_
  refine keep [0, 1] rfl ?_
  refine r1 ?_
  refine s1 16 8 1 rfl rfl rfl rfl rfl rfl trivial ?_
  refine s1 17 16 2 rfl rfl rfl rfl rfl rfl trivial ?_
  refine c1 (yes_Words threads slots hr) [] [24] 18 24 3 rfl rfl rfl rfl rfl rfl rfl rfl Try.func40 rfl rfl rfl rfl trivial rfl rfl ?_
  refine s1 15 32 4 rfl rfl rfl rfl rfl rfl trivial ?_
  refine s1 19 40 5 rfl rfl rfl rfl rfl rfl trivial ?_
  refine s1 20 48 6 rfl rfl rfl rfl rfl rfl trivial ?_
  refine s1 5 56 7 rfl rfl rfl rfl rfl rfl trivial ?_
  refine s1 6 64 8 rfl rfl rfl rfl rfl rfl trivial ?_
  refine e1 72 rfl ?_
  refine keep [0, 1, 5, 6] rfl ?_
  refine r1 ?_
  refine s1 22 72 1 rfl rfl rfl rfl rfl rfl trivial ?_
  refine s1 23 80 2 rfl rfl rfl rfl rfl rfl trivial ?_
  refine c1 (yes_Pin threads slots hr) [] [88] 24 88 3 rfl rfl rfl rfl rfl rfl rfl rfl Try.func41 rfl rfl rfl rfl trivial rfl rfl ?_
  refine s1 21 96 4 rfl rfl rfl rfl rfl rfl trivial ?_
  refine s1 25 104 5 rfl rfl rfl rfl rfl rfl trivial ?_
  refine s1 26 112 6 rfl rfl rfl rfl rfl rfl trivial ?_
  refine s1 7 120 7 rfl rfl rfl rfl rfl rfl trivial ?_
  refine s1 8 128 8 rfl rfl rfl rfl rfl rfl trivial ?_
  refine e1 136 rfl ?_
  refine keep [0, 1, 5, 6, 7, 8] rfl ?_
  refine r1 ?_
  refine s1 28 136 1 rfl rfl rfl rfl rfl rfl trivial ?_
  refine s1 29 144 2 rfl rfl rfl rfl rfl rfl trivial ?_
  refine c1 (yes_Unpin threads slots hr) [] [152] 30 152 3 rfl rfl rfl rfl rfl rfl rfl rfl Try.func42 rfl rfl rfl rfl trivial rfl rfl ?_
  refine s1 27 160 4 rfl rfl rfl rfl rfl rfl trivial ?_
  refine s1 31 168 5 rfl rfl rfl rfl rfl rfl trivial ?_
  refine s1 32 176 6 rfl rfl rfl rfl rfl rfl trivial ?_
  refine s1 9 184 7 rfl rfl rfl rfl rfl rfl trivial ?_
  refine s1 10 192 8 rfl rfl rfl rfl rfl rfl trivial ?_
  refine e1 200 rfl ?_
  refine keep [0, 1, 5, 6, 7, 8, 9, 10] rfl ?_
  refine r1 ?_
  refine s1 34 200 1 rfl rfl rfl rfl rfl rfl trivial ?_
  refine s1 35 208 2 rfl rfl rfl rfl rfl rfl trivial ?_
  refine c1 (yes_Retire threads slots hr) [] [216] 36 216 3 rfl rfl rfl rfl rfl rfl rfl rfl Try.func43 rfl rfl rfl rfl trivial rfl rfl ?_
  refine s1 33 224 4 rfl rfl rfl rfl rfl rfl trivial ?_
  refine s1 37 232 5 rfl rfl rfl rfl rfl rfl trivial ?_
  refine s1 38 240 6 rfl rfl rfl rfl rfl rfl trivial ?_
  refine s1 11 248 7 rfl rfl rfl rfl rfl rfl trivial ?_
  refine s1 12 256 8 rfl rfl rfl rfl rfl rfl trivial ?_
  refine e1 264 rfl ?_
  refine keep [0, 1, 5, 6, 7, 8, 9, 10, 11, 12] rfl ?_
  refine r1 ?_
  refine s1 40 264 1 rfl rfl rfl rfl rfl rfl trivial ?_
  refine s1 41 272 2 rfl rfl rfl rfl rfl rfl trivial ?_
  refine c1 (yes_Free threads slots hr) [] [280] 42 280 3 rfl rfl rfl rfl rfl rfl rfl rfl Try.func44 rfl rfl rfl rfl trivial rfl rfl ?_
  refine s1 39 288 4 rfl rfl rfl rfl rfl rfl trivial ?_
  refine s1 43 296 5 rfl rfl rfl rfl rfl rfl trivial ?_
  refine s1 44 304 6 rfl rfl rfl rfl rfl rfl trivial ?_
  refine s1 13 312 7 rfl rfl rfl rfl rfl rfl trivial ?_
  refine s1 14 320 8 rfl rfl rfl rfl rfl rfl trivial ?_
  refine e1 328 rfl ?_
  refine keep [0, 1, 5, 6, 7, 8, 9, 10, 11, 12, 13, 14] rfl ?_
  refine W_seq ?_
  refine r1 ?_
  refine s1 45 328 1 rfl rfl rfl rfl rfl rfl trivial ?_
  refine s1 46 336 2 rfl rfl rfl rfl rfl rfl (by first | trivial | omega | (simp only [List.length_map, List.length_append, List.length_cons, List.length_nil] at *; omega)) ?_
  refine s1 47 344 3 rfl rfl rfl rfl rfl rfl trivial ?_
  refine ask 47 rfl (fun hg6_47 => ?_) (fun hg6_47 => ?_)
  · skip
    try simp only [decide_eq_true_eq, decide_eq_false_iff_not, Bool.not_eq_true', Bool.not_eq_false', beq_iff_eq, bne_iff_ne, beq_eq_false_iff_ne, Bool.and_eq_true, Bool.or_eq_true, Bool.and_eq_false_iff, Bool.or_eq_false_iff, ge_iff_le, gt_iff_lt, Int.not_lt, Int.not_le, ne_eq, Decidable.not_not, bne_eq_false_iff_eq] at hg6_47
    refine g0 2 false 47 48 4 rfl rfl rfl rfl rfl rfl ?_
    refine g0 2 false 47 49 5 rfl rfl rfl rfl rfl rfl ?_
    refine s1 50 368 6 rfl rfl rfl rfl rfl rfl trivial ?_
    refine s1 51 376 7 rfl rfl rfl rfl rfl rfl trivial ?_
    refine g0 6 false 51 52 8 rfl rfl rfl rfl rfl rfl ?_
    refine g0 6 false 51 53 9 rfl rfl rfl rfl rfl rfl ?_
    refine s1 54 400 10 rfl rfl rfl rfl rfl rfl trivial ?_
    refine s1 55 408 11 rfl rfl rfl rfl rfl rfl trivial ?_
    refine g0 10 false 55 56 12 rfl rfl rfl rfl rfl rfl ?_
    refine g0 10 false 55 57 13 rfl rfl rfl rfl rfl rfl ?_
    refine s1 58 432 14 rfl rfl rfl rfl rfl rfl trivial ?_
    refine e1 440 rfl ?_
    refine keep [5, 6, 7, 8, 9, 10, 11, 12, 13, 14, 58] rfl ?_
    refine q1 rfl (fun hc6 => ?_) (fun hc6 => ?_)
    · skip
      exfalso; simp at hc6; omega
    · skip
      exact absurd hc6 (by decide)
  · skip
    try simp only [decide_eq_true_eq, decide_eq_false_iff_not, Bool.not_eq_true', Bool.not_eq_false', beq_iff_eq, bne_iff_ne, beq_eq_false_iff_ne, Bool.and_eq_true, Bool.or_eq_true, Bool.and_eq_false_iff, Bool.or_eq_false_iff, ge_iff_le, gt_iff_lt, Int.not_lt, Int.not_le, ne_eq, Decidable.not_not, bne_eq_false_iff_eq] at hg6_47
    refine g1 2 false 47 48 4 rfl rfl rfl rfl rfl ?_
    refine s1 48 352 4 rfl rfl rfl rfl rfl rfl trivial ?_
    refine g1 2 false 47 49 5 rfl rfl rfl rfl rfl ?_
    refine s1 49 360 5 rfl rfl rfl rfl rfl rfl (by first | trivial | omega | (simp only [List.length_map, List.length_append, List.length_cons, List.length_nil] at *; omega)) ?_
    refine s1 50 368 6 rfl rfl rfl rfl rfl rfl trivial ?_
    refine s1 51 376 7 rfl rfl rfl rfl rfl rfl trivial ?_
    refine ask 51 rfl (fun hg6_51 => ?_) (fun hg6_51 => ?_)
    · skip
      try simp only [decide_eq_true_eq, decide_eq_false_iff_not, Bool.not_eq_true', Bool.not_eq_false', beq_iff_eq, bne_iff_ne, beq_eq_false_iff_ne, Bool.and_eq_true, Bool.or_eq_true, Bool.and_eq_false_iff, Bool.or_eq_false_iff, ge_iff_le, gt_iff_lt, Int.not_lt, Int.not_le, ne_eq, Decidable.not_not, bne_eq_false_iff_eq] at hg6_51
      refine g0 6 false 51 52 8 rfl rfl rfl rfl rfl rfl ?_
      refine g0 6 false 51 53 9 rfl rfl rfl rfl rfl rfl ?_
      refine s1 54 400 10 rfl rfl rfl rfl rfl rfl trivial ?_
      refine s1 55 408 11 rfl rfl rfl rfl rfl rfl trivial ?_
      refine g0 10 false 55 56 12 rfl rfl rfl rfl rfl rfl ?_
      refine g0 10 false 55 57 13 rfl rfl rfl rfl rfl rfl ?_
      refine s1 58 432 14 rfl rfl rfl rfl rfl rfl trivial ?_
      refine e1 440 rfl ?_
      refine keep [5, 6, 7, 8, 9, 10, 11, 12, 13, 14, 58] rfl ?_
      refine q1 rfl (fun hc6 => ?_) (fun hc6 => ?_)
      · skip
        exfalso; simp at hc6; omega
      · skip
        exact absurd hc6 (by decide)
    · skip
      try simp only [decide_eq_true_eq, decide_eq_false_iff_not, Bool.not_eq_true', Bool.not_eq_false', beq_iff_eq, bne_iff_ne, beq_eq_false_iff_ne, Bool.and_eq_true, Bool.or_eq_true, Bool.and_eq_false_iff, Bool.or_eq_false_iff, ge_iff_le, gt_iff_lt, Int.not_lt, Int.not_le, ne_eq, Decidable.not_not, bne_eq_false_iff_eq] at hg6_51
      refine g1 6 false 51 52 8 rfl rfl rfl rfl rfl ?_
      refine s1 52 384 8 rfl rfl rfl rfl rfl rfl trivial ?_
      refine g1 6 false 51 53 9 rfl rfl rfl rfl rfl ?_
      refine s1 53 392 9 rfl rfl rfl rfl rfl rfl (by first | trivial | omega | (simp only [List.length_map, List.length_append, List.length_cons, List.length_nil] at *; omega)) ?_
      refine s1 54 400 10 rfl rfl rfl rfl rfl rfl trivial ?_
      refine s1 55 408 11 rfl rfl rfl rfl rfl rfl trivial ?_
      refine ask 55 rfl (fun hg6_55 => ?_) (fun hg6_55 => ?_)
      · skip
        try simp only [decide_eq_true_eq, decide_eq_false_iff_not, Bool.not_eq_true', Bool.not_eq_false', beq_iff_eq, bne_iff_ne, beq_eq_false_iff_ne, Bool.and_eq_true, Bool.or_eq_true, Bool.and_eq_false_iff, Bool.or_eq_false_iff, ge_iff_le, gt_iff_lt, Int.not_lt, Int.not_le, ne_eq, Decidable.not_not, bne_eq_false_iff_eq] at hg6_55
        refine g0 10 false 55 56 12 rfl rfl rfl rfl rfl rfl ?_
        refine g0 10 false 55 57 13 rfl rfl rfl rfl rfl rfl ?_
        refine s1 58 432 14 rfl rfl rfl rfl rfl rfl trivial ?_
        refine e1 440 rfl ?_
        refine keep [5, 6, 7, 8, 9, 10, 11, 12, 13, 14, 58] rfl ?_
        refine q1 rfl (fun hc6 => ?_) (fun hc6 => ?_)
        · skip
          exfalso; simp at hc6; omega
        · skip
          exact absurd hc6 (by decide)
      · skip
        try simp only [decide_eq_true_eq, decide_eq_false_iff_not, Bool.not_eq_true', Bool.not_eq_false', beq_iff_eq, bne_iff_ne, beq_eq_false_iff_ne, Bool.and_eq_true, Bool.or_eq_true, Bool.and_eq_false_iff, Bool.or_eq_false_iff, ge_iff_le, gt_iff_lt, Int.not_lt, Int.not_le, ne_eq, Decidable.not_not, bne_eq_false_iff_eq] at hg6_55
        refine g1 10 false 55 56 12 rfl rfl rfl rfl rfl ?_
        refine s1 56 416 12 rfl rfl rfl rfl rfl rfl trivial ?_
        refine g1 10 false 55 57 13 rfl rfl rfl rfl rfl ?_
        refine s1 57 424 13 rfl rfl rfl rfl rfl rfl (by first | trivial | omega | (simp only [List.length_map, List.length_append, List.length_cons, List.length_nil] at *; omega)) ?_
        refine s1 58 432 14 rfl rfl rfl rfl rfl rfl trivial ?_
        refine e1 440 rfl ?_
        refine keep [5, 6, 7, 8, 9, 10, 11, 12, 13, 14, 58] rfl ?_
        refine q1 rfl (fun hc6 => ?_) (fun hc6 => ?_)
        · skip
          exfalso; simp at hc6; omega
        · skip
          try simp only [decide_eq_true_eq, decide_eq_false_iff_not, Bool.not_eq_true', Bool.not_eq_false', beq_iff_eq, bne_iff_ne, beq_eq_false_iff_ne, Bool.and_eq_true, Bool.or_eq_true, Bool.and_eq_false_iff, Bool.or_eq_false_iff, ge_iff_le, gt_iff_lt, Int.not_lt, Int.not_le, ne_eq, Decidable.not_not, bne_eq_false_iff_eq] at hc6
          refine W_skip ?_
          refine tn ?_
          refine freeze 7 88 (fin (B_Pin threads slots)).length rfl rfl (Nat.le_refl _) ?_
          refine freeze 9 152 (fin (B_Unpin threads slots)).length rfl rfl (Nat.le_refl _) ?_
          refine freeze 11 216 (fin (B_Retire threads slots)).length rfl rfl (Nat.le_refl _) ?_
          refine freeze 13 280 (fin (B_Free threads slots)).length rfl rfl (Nat.le_refl _) ?_
          have ho0 := ok_Pin hr
          have ho1 := ok_Unpin hr
          have ho2 := ok_Retire hr
          have ho3 := ok_Free hr
          refine r1 ?_
          refine s1 94 440 1 rfl rfl rfl rfl rfl rfl trivial ?_
          refine s1 95 448 2 rfl rfl rfl rfl rfl rfl (by first | trivial | omega | (simp only [List.length_map, List.length_append, List.length_cons, List.length_nil] at *; omega)) ?_
          refine s1 96 456 3 rfl rfl rfl rfl rfl rfl trivial ?_
          refine ask 96 rfl (fun hg8_96 => ?_) (fun hg8_96 => ?_)
          · skip
            try simp only [decide_eq_true_eq, decide_eq_false_iff_not, Bool.not_eq_true', Bool.not_eq_false', beq_iff_eq, bne_iff_ne, beq_eq_false_iff_ne, Bool.and_eq_true, Bool.or_eq_true, Bool.and_eq_false_iff, Bool.or_eq_false_iff, ge_iff_le, gt_iff_lt, Int.not_lt, Int.not_le, ne_eq, Decidable.not_not, bne_eq_false_iff_eq] at hg8_96
            refine g1 2 true 96 97 4 rfl rfl rfl rfl rfl ?_
            refine s1 97 464 4 rfl rfl rfl rfl rfl rfl trivial ?_
            refine g1 2 true 96 98 5 rfl rfl rfl rfl rfl ?_
            refine s1 98 472 5 rfl rfl rfl rfl rfl rfl (by first | trivial | omega | (simp only [List.length_map, List.length_append, List.length_cons, List.length_nil] at *; omega)) ?_
            refine s1 99 480 6 rfl rfl rfl rfl rfl rfl trivial ?_
            refine s1 100 488 7 rfl rfl rfl rfl rfl rfl trivial ?_
            refine ask 100 rfl (fun hg8_100 => ?_) (fun hg8_100 => ?_)
            · skip
              try simp only [decide_eq_true_eq, decide_eq_false_iff_not, Bool.not_eq_true', Bool.not_eq_false', beq_iff_eq, bne_iff_ne, beq_eq_false_iff_ne, Bool.and_eq_true, Bool.or_eq_true, Bool.and_eq_false_iff, Bool.or_eq_false_iff, ge_iff_le, gt_iff_lt, Int.not_lt, Int.not_le, ne_eq, Decidable.not_not, bne_eq_false_iff_eq] at hg8_100
              refine g1 6 true 100 101 8 rfl rfl rfl rfl rfl ?_
              refine s1 101 496 8 rfl rfl rfl rfl rfl rfl trivial ?_
              refine g1 6 true 100 102 9 rfl rfl rfl rfl rfl ?_
              refine s1 102 504 9 rfl rfl rfl rfl rfl rfl (by first | trivial | omega | (simp only [List.length_map, List.length_append, List.length_cons, List.length_nil] at *; omega)) ?_
              refine s1 103 512 10 rfl rfl rfl rfl rfl rfl trivial ?_
              refine s1 104 520 11 rfl rfl rfl rfl rfl rfl trivial ?_
              refine ask 104 rfl (fun hg8_104 => ?_) (fun hg8_104 => ?_)
              · skip
                try simp only [decide_eq_true_eq, decide_eq_false_iff_not, Bool.not_eq_true', Bool.not_eq_false', beq_iff_eq, bne_iff_ne, beq_eq_false_iff_ne, Bool.and_eq_true, Bool.or_eq_true, Bool.and_eq_false_iff, Bool.or_eq_false_iff, ge_iff_le, gt_iff_lt, Int.not_lt, Int.not_le, ne_eq, Decidable.not_not, bne_eq_false_iff_eq] at hg8_104
                refine g1 10 true 104 105 12 rfl rfl rfl rfl rfl ?_
                refine s1 105 528 12 rfl rfl rfl rfl rfl rfl trivial ?_
                refine g1 10 true 104 106 13 rfl rfl rfl rfl rfl ?_
                refine s1 106 536 13 rfl rfl rfl rfl rfl rfl (by first | trivial | omega | (simp only [List.length_map, List.length_append, List.length_cons, List.length_nil] at *; omega)) ?_
                refine s1 107 544 14 rfl rfl rfl rfl rfl rfl trivial ?_
                refine s1 108 552 15 rfl rfl rfl rfl rfl rfl trivial ?_
                refine ask 108 rfl (fun hg8_108 => ?_) (fun hg8_108 => ?_)
                · skip
                  try simp only [decide_eq_true_eq, decide_eq_false_iff_not, Bool.not_eq_true', Bool.not_eq_false', beq_iff_eq, bne_iff_ne, beq_eq_false_iff_ne, Bool.and_eq_true, Bool.or_eq_true, Bool.and_eq_false_iff, Bool.or_eq_false_iff, ge_iff_le, gt_iff_lt, Int.not_lt, Int.not_le, ne_eq, Decidable.not_not, bne_eq_false_iff_eq] at hg8_108
                  refine g1 14 true 108 109 16 rfl rfl rfl rfl rfl ?_
                  refine s1 109 560 16 rfl rfl rfl rfl rfl rfl trivial ?_
                  refine g1 14 true 108 110 17 rfl rfl rfl rfl rfl ?_
                  refine s1 110 568 17 rfl rfl rfl rfl rfl rfl (by first | trivial | omega | (simp only [List.length_map, List.length_append, List.length_cons, List.length_nil] at *; omega)) ?_
                  refine s1 111 576 18 rfl rfl rfl rfl rfl rfl trivial ?_
                  refine s1 112 584 19 rfl rfl rfl rfl rfl rfl trivial ?_
                  refine ask 112 rfl (fun hg8_112 => ?_) (fun hg8_112 => ?_)
                  · skip
                    try simp only [decide_eq_true_eq, decide_eq_false_iff_not, Bool.not_eq_true', Bool.not_eq_false', beq_iff_eq, bne_iff_ne, beq_eq_false_iff_ne, Bool.and_eq_true, Bool.or_eq_true, Bool.and_eq_false_iff, Bool.or_eq_false_iff, ge_iff_le, gt_iff_lt, Int.not_lt, Int.not_le, ne_eq, Decidable.not_not, bne_eq_false_iff_eq] at hg8_112
                    refine g1 18 true 112 113 20 rfl rfl rfl rfl rfl ?_
                    refine s1 113 592 20 rfl rfl rfl rfl rfl rfl trivial ?_
                    refine g1 18 true 112 114 21 rfl rfl rfl rfl rfl ?_
                    refine s1 114 600 21 rfl rfl rfl rfl rfl rfl (by first | trivial | omega | (simp only [List.length_map, List.length_append, List.length_cons, List.length_nil] at *; omega)) ?_
                    refine g1 18 true 112 115 22 rfl rfl rfl rfl rfl ?_
                    refine s1 115 608 22 rfl rfl rfl rfl rfl rfl (by first | trivial | omega | (simp only [List.length_map, List.length_append, List.length_cons, List.length_nil] at *; omega)) ?_
                    refine s1 116 616 23 rfl rfl rfl rfl rfl rfl trivial ?_
                    refine s1 117 624 24 rfl rfl rfl rfl rfl rfl trivial ?_
                    refine ask 117 rfl (fun hg8_117 => ?_) (fun hg8_117 => ?_)
                    · skip
                      try simp only [decide_eq_true_eq, decide_eq_false_iff_not, Bool.not_eq_true', Bool.not_eq_false', beq_iff_eq, bne_iff_ne, beq_eq_false_iff_ne, Bool.and_eq_true, Bool.or_eq_true, Bool.and_eq_false_iff, Bool.or_eq_false_iff, ge_iff_le, gt_iff_lt, Int.not_lt, Int.not_le, ne_eq, Decidable.not_not, bne_eq_false_iff_eq] at hg8_117
                      refine g1 23 true 117 118 25 rfl rfl rfl rfl rfl ?_
                      refine s1 118 632 25 rfl rfl rfl rfl rfl rfl trivial ?_
                      refine g1 23 true 117 119 26 rfl rfl rfl rfl rfl ?_
                      refine s1 119 640 26 rfl rfl rfl rfl rfl rfl (by first | trivial | omega | (simp only [List.length_map, List.length_append, List.length_cons, List.length_nil] at *; omega)) ?_
                      refine g1 23 true 117 120 27 rfl rfl rfl rfl rfl ?_
                      refine s1 120 648 27 rfl rfl rfl rfl rfl rfl (by first | trivial | omega | (simp only [List.length_map, List.length_append, List.length_cons, List.length_nil] at *; omega)) ?_
                      refine s1 121 656 28 rfl rfl rfl rfl rfl rfl trivial ?_
                      refine s1 122 664 29 rfl rfl rfl rfl rfl rfl trivial ?_
                      refine ask 122 rfl (fun hg8_122 => ?_) (fun hg8_122 => ?_)
                      · skip
                        try simp only [decide_eq_true_eq, decide_eq_false_iff_not, Bool.not_eq_true', Bool.not_eq_false', beq_iff_eq, bne_iff_ne, beq_eq_false_iff_ne, Bool.and_eq_true, Bool.or_eq_true, Bool.and_eq_false_iff, Bool.or_eq_false_iff, ge_iff_le, gt_iff_lt, Int.not_lt, Int.not_le, ne_eq, Decidable.not_not, bne_eq_false_iff_eq] at hg8_122
                        refine g1 28 true 122 123 30 rfl rfl rfl rfl rfl ?_
                        refine s1 123 672 30 rfl rfl rfl rfl rfl rfl trivial ?_
                        refine g1 28 true 122 124 31 rfl rfl rfl rfl rfl ?_
                        refine s1 124 680 31 rfl rfl rfl rfl rfl rfl (by first | trivial | omega | (simp only [List.length_map, List.length_append, List.length_cons, List.length_nil] at *; omega)) ?_
                        refine g1 28 true 122 125 32 rfl rfl rfl rfl rfl ?_
                        refine s1 125 688 32 rfl rfl rfl rfl rfl rfl (by first | trivial | omega | (simp only [List.length_map, List.length_append, List.length_cons, List.length_nil] at *; omega)) ?_
                        refine s1 126 696 33 rfl rfl rfl rfl rfl rfl trivial ?_
                        refine s1 127 704 34 rfl rfl rfl rfl rfl rfl trivial ?_
                        refine ask 127 rfl (fun hg8_127 => ?_) (fun hg8_127 => ?_)
                        · skip
                          try simp only [decide_eq_true_eq, decide_eq_false_iff_not, Bool.not_eq_true', Bool.not_eq_false', beq_iff_eq, bne_iff_ne, beq_eq_false_iff_ne, Bool.and_eq_true, Bool.or_eq_true, Bool.and_eq_false_iff, Bool.or_eq_false_iff, ge_iff_le, gt_iff_lt, Int.not_lt, Int.not_le, ne_eq, Decidable.not_not, bne_eq_false_iff_eq] at hg8_127
                          refine g1 33 true 127 128 35 rfl rfl rfl rfl rfl ?_
                          refine s1 128 712 35 rfl rfl rfl rfl rfl rfl trivial ?_
                          refine g1 33 true 127 129 36 rfl rfl rfl rfl rfl ?_
                          refine s1 129 720 36 rfl rfl rfl rfl rfl rfl (by first | trivial | omega | (simp only [List.length_map, List.length_append, List.length_cons, List.length_nil] at *; omega)) ?_
                          refine g1 33 true 127 130 37 rfl rfl rfl rfl rfl ?_
                          refine s1 130 728 37 rfl rfl rfl rfl rfl rfl (by first | trivial | omega | (simp only [List.length_map, List.length_append, List.length_cons, List.length_nil] at *; omega)) ?_
                          refine s1 131 736 38 rfl rfl rfl rfl rfl rfl trivial ?_
                          refine s1 132 744 39 rfl rfl rfl rfl rfl rfl trivial ?_
                          refine ask 132 rfl (fun hg8_132 => ?_) (fun hg8_132 => ?_)
                          · skip
                            try simp only [decide_eq_true_eq, decide_eq_false_iff_not, Bool.not_eq_true', Bool.not_eq_false', beq_iff_eq, bne_iff_ne, beq_eq_false_iff_ne, Bool.and_eq_true, Bool.or_eq_true, Bool.and_eq_false_iff, Bool.or_eq_false_iff, ge_iff_le, gt_iff_lt, Int.not_lt, Int.not_le, ne_eq, Decidable.not_not, bne_eq_false_iff_eq] at hg8_132
                            refine g1 38 true 132 133 40 rfl rfl rfl rfl rfl ?_
                            refine s1 133 752 40 rfl rfl rfl rfl rfl rfl trivial ?_
                            refine g1 38 true 132 134 41 rfl rfl rfl rfl rfl ?_
                            refine s1 134 760 41 rfl rfl rfl rfl rfl rfl (by first | trivial | omega | (simp only [List.length_map, List.length_append, List.length_cons, List.length_nil] at *; omega)) ?_
                            refine g1 38 true 132 135 42 rfl rfl rfl rfl rfl ?_
                            refine s1 135 768 42 rfl rfl rfl rfl rfl rfl (by first | trivial | omega | (simp only [List.length_map, List.length_append, List.length_cons, List.length_nil] at *; omega)) ?_
                            refine s1 136 776 43 rfl rfl rfl rfl rfl rfl trivial ?_
                            refine s1 137 784 44 rfl rfl rfl rfl rfl rfl trivial ?_
                            refine ask 137 rfl (fun hg8_137 => ?_) (fun hg8_137 => ?_)
                            · skip
                              try simp only [decide_eq_true_eq, decide_eq_false_iff_not, Bool.not_eq_true', Bool.not_eq_false', beq_iff_eq, bne_iff_ne, beq_eq_false_iff_ne, Bool.and_eq_true, Bool.or_eq_true, Bool.and_eq_false_iff, Bool.or_eq_false_iff, ge_iff_le, gt_iff_lt, Int.not_lt, Int.not_le, ne_eq, Decidable.not_not, bne_eq_false_iff_eq] at hg8_137
                              refine g1 43 true 137 138 45 rfl rfl rfl rfl rfl ?_
                              refine s1 138 792 45 rfl rfl rfl rfl rfl rfl trivial ?_
                              refine g1 43 true 137 139 46 rfl rfl rfl rfl rfl ?_
                              refine s1 139 800 46 rfl rfl rfl rfl rfl rfl (by first | trivial | omega | (simp only [List.length_map, List.length_append, List.length_cons, List.length_nil] at *; omega)) ?_
                              refine g1 43 true 137 140 47 rfl rfl rfl rfl rfl ?_
                              refine s1 140 808 47 rfl rfl rfl rfl rfl rfl (by first | trivial | omega | (simp only [List.length_map, List.length_append, List.length_cons, List.length_nil] at *; omega)) ?_
                              refine s1 141 816 48 rfl rfl rfl rfl rfl rfl trivial ?_
                              refine s1 142 824 49 rfl rfl rfl rfl rfl rfl trivial ?_
                              refine ask 142 rfl (fun hg8_142 => ?_) (fun hg8_142 => ?_)
                              · skip
                                try simp only [decide_eq_true_eq, decide_eq_false_iff_not, Bool.not_eq_true', Bool.not_eq_false', beq_iff_eq, bne_iff_ne, beq_eq_false_iff_ne, Bool.and_eq_true, Bool.or_eq_true, Bool.and_eq_false_iff, Bool.or_eq_false_iff, ge_iff_le, gt_iff_lt, Int.not_lt, Int.not_le, ne_eq, Decidable.not_not, bne_eq_false_iff_eq] at hg8_142
                                refine g1 48 true 142 143 50 rfl rfl rfl rfl rfl ?_
                                refine s1 143 832 50 rfl rfl rfl rfl rfl rfl trivial ?_
                                refine g1 48 true 142 144 51 rfl rfl rfl rfl rfl ?_
                                refine c1 (codeMay_any (fin (B_Pin threads slots)) (Nat.le_trans (ok_Pin hr).2.2 (by decide))) [] [] 144 840 51 rfl rfl rfl rfl rfl rfl rfl rfl Try.func15 rfl rfl rfl rfl trivial rfl rfl ?_
                                refine val 144 (SV.b true) rfl (by rw [(ok_Pin hr).1]) ?_
                                refine s1 145 848 52 rfl rfl rfl rfl rfl rfl trivial ?_
                                refine s1 146 856 53 rfl rfl rfl rfl rfl rfl trivial ?_
                                refine ask 146 rfl (fun hg8_146 => ?_) (fun hg8_146 => ?_)
                                · skip
                                  try simp only [decide_eq_true_eq, decide_eq_false_iff_not, Bool.not_eq_true', Bool.not_eq_false', beq_iff_eq, bne_iff_ne, beq_eq_false_iff_ne, Bool.and_eq_true, Bool.or_eq_true, Bool.and_eq_false_iff, Bool.or_eq_false_iff, ge_iff_le, gt_iff_lt, Int.not_lt, Int.not_le, ne_eq, Decidable.not_not, bne_eq_false_iff_eq] at hg8_146
                                  refine g1 52 true 146 147 54 rfl rfl rfl rfl rfl ?_
                                  refine s1 147 864 54 rfl rfl rfl rfl rfl rfl trivial ?_
                                  refine g1 52 true 146 148 55 rfl rfl rfl rfl rfl ?_
                                  refine c1 (codeMay_any (fin (B_Unpin threads slots)) (Nat.le_trans (ok_Unpin hr).2.2 (by decide))) [] [] 148 872 55 rfl rfl rfl rfl rfl rfl rfl rfl Try.func15 rfl rfl rfl rfl trivial rfl rfl ?_
                                  refine val 148 (SV.b true) rfl (by rw [(ok_Unpin hr).1]) ?_
                                  refine s1 149 880 56 rfl rfl rfl rfl rfl rfl trivial ?_
                                  refine s1 150 888 57 rfl rfl rfl rfl rfl rfl trivial ?_
                                  refine ask 150 rfl (fun hg8_150 => ?_) (fun hg8_150 => ?_)
                                  · skip
                                    try simp only [decide_eq_true_eq, decide_eq_false_iff_not, Bool.not_eq_true', Bool.not_eq_false', beq_iff_eq, bne_iff_ne, beq_eq_false_iff_ne, Bool.and_eq_true, Bool.or_eq_true, Bool.and_eq_false_iff, Bool.or_eq_false_iff, ge_iff_le, gt_iff_lt, Int.not_lt, Int.not_le, ne_eq, Decidable.not_not, bne_eq_false_iff_eq] at hg8_150
                                    refine g1 56 true 150 151 58 rfl rfl rfl rfl rfl ?_
                                    refine s1 151 896 58 rfl rfl rfl rfl rfl rfl trivial ?_
                                    refine g1 56 true 150 152 59 rfl rfl rfl rfl rfl ?_
                                    refine c1 (codeMay_any (fin (B_Retire threads slots)) (Nat.le_trans (ok_Retire hr).2.2 (by decide))) [] [] 152 904 59 rfl rfl rfl rfl rfl rfl rfl rfl Try.func15 rfl rfl rfl rfl trivial rfl rfl ?_
                                    refine val 152 (SV.b true) rfl (by rw [(ok_Retire hr).1]) ?_
                                    refine s1 153 912 60 rfl rfl rfl rfl rfl rfl trivial ?_
                                    refine s1 154 920 61 rfl rfl rfl rfl rfl rfl trivial ?_
                                    refine ask 154 rfl (fun hg8_154 => ?_) (fun hg8_154 => ?_)
                                    · skip
                                      try simp only [decide_eq_true_eq, decide_eq_false_iff_not, Bool.not_eq_true', Bool.not_eq_false', beq_iff_eq, bne_iff_ne, beq_eq_false_iff_ne, Bool.and_eq_true, Bool.or_eq_true, Bool.and_eq_false_iff, Bool.or_eq_false_iff, ge_iff_le, gt_iff_lt, Int.not_lt, Int.not_le, ne_eq, Decidable.not_not, bne_eq_false_iff_eq] at hg8_154
                                      refine g1 60 true 154 155 62 rfl rfl rfl rfl rfl ?_
                                      refine s1 155 928 62 rfl rfl rfl rfl rfl rfl trivial ?_
                                      refine g1 60 true 154 156 63 rfl rfl rfl rfl rfl ?_
                                      refine c1 (codeMay_any (fin (B_Free threads slots)) (Nat.le_trans (ok_Free hr).2.2 (by decide))) [] [] 156 936 63 rfl rfl rfl rfl rfl rfl rfl rfl Try.func15 rfl rfl rfl rfl trivial rfl rfl ?_
                                      refine val 156 (SV.b true) rfl (by rw [(ok_Free hr).1]) ?_
                                      refine s1 157 944 64 rfl rfl rfl rfl rfl rfl trivial ?_
                                      refine s1 4 952 65 rfl rfl rfl rfl rfl rfl trivial ?_
                                      refine e1 960 rfl ?_
                                      refine keep [4] rfl ?_
                                      refine W_ret ?_
                                      exact out1 4 (SV.b true) (π := []) (hout := []) Try.results12 rfl (by first | rfl | (simp; done) | (simp [*]; done)) rfl rfl trivial rfl
                                    · skip
                                      try simp only [decide_eq_true_eq, decide_eq_false_iff_not, Bool.not_eq_true', Bool.not_eq_false', beq_iff_eq, bne_iff_ne, beq_eq_false_iff_ne, Bool.and_eq_true, Bool.or_eq_true, Bool.and_eq_false_iff, Bool.or_eq_false_iff, ge_iff_le, gt_iff_lt, Int.not_lt, Int.not_le, ne_eq, Decidable.not_not, bne_eq_false_iff_eq] at hg8_154
                                      all_goals (exfalso; first | (simp at hg8_154; done) | (simp at hg8_154; omega) | (simp_all; omega) | omega)
                                  · skip
                                    try simp only [decide_eq_true_eq, decide_eq_false_iff_not, Bool.not_eq_true', Bool.not_eq_false', beq_iff_eq, bne_iff_ne, beq_eq_false_iff_ne, Bool.and_eq_true, Bool.or_eq_true, Bool.and_eq_false_iff, Bool.or_eq_false_iff, ge_iff_le, gt_iff_lt, Int.not_lt, Int.not_le, ne_eq, Decidable.not_not, bne_eq_false_iff_eq] at hg8_150
                                    all_goals (exfalso; first | (simp at hg8_150; done) | (simp at hg8_150; omega) | (simp_all; omega) | omega)
                                · skip
                                  try simp only [decide_eq_true_eq, decide_eq_false_iff_not, Bool.not_eq_true', Bool.not_eq_false', beq_iff_eq, bne_iff_ne, beq_eq_false_iff_ne, Bool.and_eq_true, Bool.or_eq_true, Bool.and_eq_false_iff, Bool.or_eq_false_iff, ge_iff_le, gt_iff_lt, Int.not_lt, Int.not_le, ne_eq, Decidable.not_not, bne_eq_false_iff_eq] at hg8_146
                                  all_goals (exfalso; first | (simp at hg8_146; done) | (simp at hg8_146; omega) | (simp_all; omega) | omega)
                              · skip
                                try simp only [decide_eq_true_eq, decide_eq_false_iff_not, Bool.not_eq_true', Bool.not_eq_false', beq_iff_eq, bne_iff_ne, beq_eq_false_iff_ne, Bool.and_eq_true, Bool.or_eq_true, Bool.and_eq_false_iff, Bool.or_eq_false_iff, ge_iff_le, gt_iff_lt, Int.not_lt, Int.not_le, ne_eq, Decidable.not_not, bne_eq_false_iff_eq] at hg8_142
                                all_goals (exfalso; first | (simp at hg8_142; done) | (simp at hg8_142; omega) | (simp_all; omega) | omega)
                            · skip
                              try simp only [decide_eq_true_eq, decide_eq_false_iff_not, Bool.not_eq_true', Bool.not_eq_false', beq_iff_eq, bne_iff_ne, beq_eq_false_iff_ne, Bool.and_eq_true, Bool.or_eq_true, Bool.and_eq_false_iff, Bool.or_eq_false_iff, ge_iff_le, gt_iff_lt, Int.not_lt, Int.not_le, ne_eq, Decidable.not_not, bne_eq_false_iff_eq] at hg8_137
                              all_goals (exfalso; first | (simp at hg8_137; done) | (simp at hg8_137; omega) | (simp_all; omega) | omega)
                          · skip
                            try simp only [decide_eq_true_eq, decide_eq_false_iff_not, Bool.not_eq_true', Bool.not_eq_false', beq_iff_eq, bne_iff_ne, beq_eq_false_iff_ne, Bool.and_eq_true, Bool.or_eq_true, Bool.and_eq_false_iff, Bool.or_eq_false_iff, ge_iff_le, gt_iff_lt, Int.not_lt, Int.not_le, ne_eq, Decidable.not_not, bne_eq_false_iff_eq] at hg8_132
                            all_goals (exfalso; first | (simp at hg8_132; done) | (simp at hg8_132; omega) | (simp_all; omega) | omega)
                        · skip
                          try simp only [decide_eq_true_eq, decide_eq_false_iff_not, Bool.not_eq_true', Bool.not_eq_false', beq_iff_eq, bne_iff_ne, beq_eq_false_iff_ne, Bool.and_eq_true, Bool.or_eq_true, Bool.and_eq_false_iff, Bool.or_eq_false_iff, ge_iff_le, gt_iff_lt, Int.not_lt, Int.not_le, ne_eq, Decidable.not_not, bne_eq_false_iff_eq] at hg8_127
                          all_goals (exfalso; first | (simp at hg8_127; done) | (simp at hg8_127; omega) | (simp_all; omega) | omega)
                      · skip
                        try simp only [decide_eq_true_eq, decide_eq_false_iff_not, Bool.not_eq_true', Bool.not_eq_false', beq_iff_eq, bne_iff_ne, beq_eq_false_iff_ne, Bool.and_eq_true, Bool.or_eq_true, Bool.and_eq_false_iff, Bool.or_eq_false_iff, ge_iff_le, gt_iff_lt, Int.not_lt, Int.not_le, ne_eq, Decidable.not_not, bne_eq_false_iff_eq] at hg8_122
                        all_goals (exfalso; first | (simp at hg8_122; done) | (simp at hg8_122; omega) | (simp_all; omega) | omega)
                    · skip
                      try simp only [decide_eq_true_eq, decide_eq_false_iff_not, Bool.not_eq_true', Bool.not_eq_false', beq_iff_eq, bne_iff_ne, beq_eq_false_iff_ne, Bool.and_eq_true, Bool.or_eq_true, Bool.and_eq_false_iff, Bool.or_eq_false_iff, ge_iff_le, gt_iff_lt, Int.not_lt, Int.not_le, ne_eq, Decidable.not_not, bne_eq_false_iff_eq] at hg8_117
                      all_goals (exfalso; first | (simp at hg8_117; done) | (simp at hg8_117; omega) | (simp_all; omega) | omega)
                  · skip
                    try simp only [decide_eq_true_eq, decide_eq_false_iff_not, Bool.not_eq_true', Bool.not_eq_false', beq_iff_eq, bne_iff_ne, beq_eq_false_iff_ne, Bool.and_eq_true, Bool.or_eq_true, Bool.and_eq_false_iff, Bool.or_eq_false_iff, ge_iff_le, gt_iff_lt, Int.not_lt, Int.not_le, ne_eq, Decidable.not_not, bne_eq_false_iff_eq] at hg8_112
                    all_goals (exfalso; first | (simp at hg8_112; done) | (simp at hg8_112; omega) | (simp_all; omega) | omega)
                · skip
                  try simp only [decide_eq_true_eq, decide_eq_false_iff_not, Bool.not_eq_true', Bool.not_eq_false', beq_iff_eq, bne_iff_ne, beq_eq_false_iff_ne, Bool.and_eq_true, Bool.or_eq_true, Bool.and_eq_false_iff, Bool.or_eq_false_iff, ge_iff_le, gt_iff_lt, Int.not_lt, Int.not_le, ne_eq, Decidable.not_not, bne_eq_false_iff_eq] at hg8_108
                  all_goals (exfalso; first | (simp at hg8_108; done) | (simp at hg8_108; omega) | (simp_all; omega) | omega)
              · skip
                try simp only [decide_eq_true_eq, decide_eq_false_iff_not, Bool.not_eq_true', Bool.not_eq_false', beq_iff_eq, bne_iff_ne, beq_eq_false_iff_ne, Bool.and_eq_true, Bool.or_eq_true, Bool.and_eq_false_iff, Bool.or_eq_false_iff, ge_iff_le, gt_iff_lt, Int.not_lt, Int.not_le, ne_eq, Decidable.not_not, bne_eq_false_iff_eq] at hg8_104
                all_goals (exfalso; first | (simp at hg8_104; done) | (simp at hg8_104; omega) | (simp_all; omega) | omega)
            · skip
              try simp only [decide_eq_true_eq, decide_eq_false_iff_not, Bool.not_eq_true', Bool.not_eq_false', beq_iff_eq, bne_iff_ne, beq_eq_false_iff_ne, Bool.and_eq_true, Bool.or_eq_true, Bool.and_eq_false_iff, Bool.or_eq_false_iff, ge_iff_le, gt_iff_lt, Int.not_lt, Int.not_le, ne_eq, Decidable.not_not, bne_eq_false_iff_eq] at hg8_100
              all_goals (exfalso; first | (simp at hg8_100; done) | (simp at hg8_100; omega) | (simp_all; omega) | omega)
          · skip
            try simp only [decide_eq_true_eq, decide_eq_false_iff_not, Bool.not_eq_true', Bool.not_eq_false', beq_iff_eq, bne_iff_ne, beq_eq_false_iff_ne, Bool.and_eq_true, Bool.or_eq_true, Bool.and_eq_false_iff, Bool.or_eq_false_iff, ge_iff_le, gt_iff_lt, Int.not_lt, Int.not_le, ne_eq, Decidable.not_not, bne_eq_false_iff_eq] at hg8_96
            all_goals (exfalso; first | (simp at hg8_96; done) | (simp at hg8_96; omega) | (simp_all; omega) | omega)

theorem law_no (threads slots : Int) (hr : ¬ (1 ≤ threads ∧ threads ≤ 4 ∧ 1 ≤ slots ∧ slots ≤ 8)) : Spec Try.prog GV 12 [SV.i threads, SV.i slots] [] (fun r _ => r = SV.b true) := by
  refine start 158 0 Try.func12 rfl rfl rfl rfl ?_
  refine r1 ?_
  refine s1 4 0 1 rfl rfl rfl rfl rfl rfl trivial ?_
  refine e1 8 rfl ?_
  refine keep [0, 1] rfl ?_
  refine r1 ?_
  refine s1 16 8 1 rfl rfl rfl rfl rfl rfl trivial ?_
  refine s1 17 16 2 rfl rfl rfl rfl rfl rfl trivial ?_
  refine c1 (no_Words threads slots hr) [] [] 18 24 3 rfl rfl rfl rfl rfl rfl rfl rfl Try.func40 rfl rfl rfl rfl trivial rfl rfl ?_
  refine s1 15 32 4 rfl rfl rfl rfl rfl rfl trivial ?_
  refine s1 19 40 5 rfl rfl rfl rfl rfl rfl trivial ?_
  refine s1 20 48 6 rfl rfl rfl rfl rfl rfl trivial ?_
  refine s1 5 56 7 rfl rfl rfl rfl rfl rfl trivial ?_
  refine s1 6 64 8 rfl rfl rfl rfl rfl rfl trivial ?_
  refine e1 72 rfl ?_
  refine keep [0, 1, 5, 6] rfl ?_
  refine r1 ?_
  refine s1 22 72 1 rfl rfl rfl rfl rfl rfl trivial ?_
  refine s1 23 80 2 rfl rfl rfl rfl rfl rfl trivial ?_
  refine c1 (no_Pin threads slots hr) [] [] 24 88 3 rfl rfl rfl rfl rfl rfl rfl rfl Try.func41 rfl rfl rfl rfl trivial rfl rfl ?_
  refine s1 21 96 4 rfl rfl rfl rfl rfl rfl trivial ?_
  refine s1 25 104 5 rfl rfl rfl rfl rfl rfl trivial ?_
  refine s1 26 112 6 rfl rfl rfl rfl rfl rfl trivial ?_
  refine s1 7 120 7 rfl rfl rfl rfl rfl rfl trivial ?_
  refine s1 8 128 8 rfl rfl rfl rfl rfl rfl trivial ?_
  refine e1 136 rfl ?_
  refine keep [0, 1, 5, 6, 7, 8] rfl ?_
  refine r1 ?_
  refine s1 28 136 1 rfl rfl rfl rfl rfl rfl trivial ?_
  refine s1 29 144 2 rfl rfl rfl rfl rfl rfl trivial ?_
  refine c1 (no_Unpin threads slots hr) [] [] 30 152 3 rfl rfl rfl rfl rfl rfl rfl rfl Try.func42 rfl rfl rfl rfl trivial rfl rfl ?_
  refine s1 27 160 4 rfl rfl rfl rfl rfl rfl trivial ?_
  refine s1 31 168 5 rfl rfl rfl rfl rfl rfl trivial ?_
  refine s1 32 176 6 rfl rfl rfl rfl rfl rfl trivial ?_
  refine s1 9 184 7 rfl rfl rfl rfl rfl rfl trivial ?_
  refine s1 10 192 8 rfl rfl rfl rfl rfl rfl trivial ?_
  refine e1 200 rfl ?_
  refine keep [0, 1, 5, 6, 7, 8, 9, 10] rfl ?_
  refine r1 ?_
  refine s1 34 200 1 rfl rfl rfl rfl rfl rfl trivial ?_
  refine s1 35 208 2 rfl rfl rfl rfl rfl rfl trivial ?_
  refine c1 (no_Retire threads slots hr) [] [] 36 216 3 rfl rfl rfl rfl rfl rfl rfl rfl Try.func43 rfl rfl rfl rfl trivial rfl rfl ?_
  refine s1 33 224 4 rfl rfl rfl rfl rfl rfl trivial ?_
  refine s1 37 232 5 rfl rfl rfl rfl rfl rfl trivial ?_
  refine s1 38 240 6 rfl rfl rfl rfl rfl rfl trivial ?_
  refine s1 11 248 7 rfl rfl rfl rfl rfl rfl trivial ?_
  refine s1 12 256 8 rfl rfl rfl rfl rfl rfl trivial ?_
  refine e1 264 rfl ?_
  refine keep [0, 1, 5, 6, 7, 8, 9, 10, 11, 12] rfl ?_
  refine r1 ?_
  refine s1 40 264 1 rfl rfl rfl rfl rfl rfl trivial ?_
  refine s1 41 272 2 rfl rfl rfl rfl rfl rfl trivial ?_
  refine c1 (no_Free threads slots hr) [] [] 42 280 3 rfl rfl rfl rfl rfl rfl rfl rfl Try.func44 rfl rfl rfl rfl trivial rfl rfl ?_
  refine s1 39 288 4 rfl rfl rfl rfl rfl rfl trivial ?_
  refine s1 43 296 5 rfl rfl rfl rfl rfl rfl trivial ?_
  refine s1 44 304 6 rfl rfl rfl rfl rfl rfl trivial ?_
  refine s1 13 312 7 rfl rfl rfl rfl rfl rfl trivial ?_
  refine s1 14 320 8 rfl rfl rfl rfl rfl rfl trivial ?_
  refine e1 328 rfl ?_
  refine keep [0, 1, 5, 6, 7, 8, 9, 10, 11, 12, 13, 14] rfl ?_
  refine W_seq ?_
  refine r1 ?_
  refine s1 45 328 1 rfl rfl rfl rfl rfl rfl trivial ?_
  refine s1 46 336 2 rfl rfl rfl rfl rfl rfl (by first | trivial | omega | (simp only [List.length_map, List.length_append, List.length_cons, List.length_nil] at *; omega)) ?_
  refine s1 47 344 3 rfl rfl rfl rfl rfl rfl trivial ?_
  refine ask 47 rfl (fun hg6_47 => ?_) (fun hg6_47 => ?_)
  · skip
    try simp only [decide_eq_true_eq, decide_eq_false_iff_not, Bool.not_eq_true', Bool.not_eq_false', beq_iff_eq, bne_iff_ne, beq_eq_false_iff_ne, Bool.and_eq_true, Bool.or_eq_true, Bool.and_eq_false_iff, Bool.or_eq_false_iff, ge_iff_le, gt_iff_lt, Int.not_lt, Int.not_le, ne_eq, Decidable.not_not, bne_eq_false_iff_eq] at hg6_47
    refine g0 2 false 47 48 4 rfl rfl rfl rfl rfl rfl ?_
    refine g0 2 false 47 49 5 rfl rfl rfl rfl rfl rfl ?_
    refine s1 50 368 6 rfl rfl rfl rfl rfl rfl trivial ?_
    refine s1 51 376 7 rfl rfl rfl rfl rfl rfl trivial ?_
    refine g0 6 false 51 52 8 rfl rfl rfl rfl rfl rfl ?_
    refine g0 6 false 51 53 9 rfl rfl rfl rfl rfl rfl ?_
    refine s1 54 400 10 rfl rfl rfl rfl rfl rfl trivial ?_
    refine s1 55 408 11 rfl rfl rfl rfl rfl rfl trivial ?_
    refine g0 10 false 55 56 12 rfl rfl rfl rfl rfl rfl ?_
    refine g0 10 false 55 57 13 rfl rfl rfl rfl rfl rfl ?_
    refine s1 58 432 14 rfl rfl rfl rfl rfl rfl trivial ?_
    refine e1 440 rfl ?_
    refine keep [5, 6, 7, 8, 9, 10, 11, 12, 13, 14, 58] rfl ?_
    refine q1 rfl (fun hc6 => ?_) (fun hc6 => ?_)
    · skip
      try simp only [decide_eq_true_eq, decide_eq_false_iff_not, Bool.not_eq_true', Bool.not_eq_false', beq_iff_eq, bne_iff_ne, beq_eq_false_iff_ne, Bool.and_eq_true, Bool.or_eq_true, Bool.and_eq_false_iff, Bool.or_eq_false_iff, ge_iff_le, gt_iff_lt, Int.not_lt, Int.not_le, ne_eq, Decidable.not_not, bne_eq_false_iff_eq] at hc6
      refine r1 ?_
      refine s1 59 440 1 rfl rfl rfl rfl rfl rfl trivial ?_
      refine s1 60 448 2 rfl rfl rfl rfl rfl rfl (by first | trivial | omega | (simp only [List.length_map, List.length_append, List.length_cons, List.length_nil] at *; omega)) ?_
      refine s1 61 456 3 rfl rfl rfl rfl rfl rfl trivial ?_
      refine s1 62 464 4 rfl rfl rfl rfl rfl rfl (by first | trivial | omega | (simp only [List.length_map, List.length_append, List.length_cons, List.length_nil] at *; omega)) ?_
      refine sA 63 472 5 rfl rfl rfl rfl rfl rfl rfl rfl rfl (by unfold inRange; omega) ?_
      refine s1 64 480 6 rfl rfl rfl rfl rfl rfl trivial ?_
      refine s1 65 488 7 rfl rfl rfl rfl rfl rfl (by first | trivial | omega | (simp only [List.length_map, List.length_append, List.length_cons, List.length_nil] at *; omega)) ?_
      refine sA 66 496 8 rfl rfl rfl rfl rfl rfl rfl rfl rfl (by unfold inRange; omega) ?_
      refine s1 67 504 9 rfl rfl rfl rfl rfl rfl trivial ?_
      refine s1 68 512 10 rfl rfl rfl rfl rfl rfl (by first | trivial | omega | (simp only [List.length_map, List.length_append, List.length_cons, List.length_nil] at *; omega)) ?_
      refine sA 69 520 11 rfl rfl rfl rfl rfl rfl rfl rfl rfl (by unfold inRange; omega) ?_
      refine s1 70 528 12 rfl rfl rfl rfl rfl rfl trivial ?_
      refine s1 71 536 13 rfl rfl rfl rfl rfl rfl (by first | trivial | omega | (simp only [List.length_map, List.length_append, List.length_cons, List.length_nil] at *; omega)) ?_
      refine sA 72 544 14 rfl rfl rfl rfl rfl rfl rfl rfl rfl (by unfold inRange; omega) ?_
      refine s1 73 552 15 rfl rfl rfl rfl rfl rfl (by first | trivial | omega | (simp only [List.length_map, List.length_append, List.length_cons, List.length_nil] at *; omega)) ?_
      refine s1 74 560 16 rfl rfl rfl rfl rfl rfl trivial ?_
      refine ask 74 rfl (fun hg7_74 => ?_) (fun hg7_74 => ?_)
      · skip
        try simp only [decide_eq_true_eq, decide_eq_false_iff_not, Bool.not_eq_true', Bool.not_eq_false', beq_iff_eq, bne_iff_ne, beq_eq_false_iff_ne, Bool.and_eq_true, Bool.or_eq_true, Bool.and_eq_false_iff, Bool.or_eq_false_iff, ge_iff_le, gt_iff_lt, Int.not_lt, Int.not_le, ne_eq, Decidable.not_not, bne_eq_false_iff_eq] at hg7_74
        refine g1 15 true 74 75 17 rfl rfl rfl rfl rfl ?_
        refine s1 75 568 17 rfl rfl rfl rfl rfl rfl trivial ?_
        refine g1 15 true 74 76 18 rfl rfl rfl rfl rfl ?_
        refine s1 76 576 18 rfl rfl rfl rfl rfl rfl (by first | trivial | omega | (simp only [List.length_map, List.length_append, List.length_cons, List.length_nil] at *; omega)) ?_
        refine s1 77 584 19 rfl rfl rfl rfl rfl rfl trivial ?_
        refine s1 78 592 20 rfl rfl rfl rfl rfl rfl trivial ?_
        refine ask 78 rfl (fun hg7_78 => ?_) (fun hg7_78 => ?_)
        · skip
          try simp only [decide_eq_true_eq, decide_eq_false_iff_not, Bool.not_eq_true', Bool.not_eq_false', beq_iff_eq, bne_iff_ne, beq_eq_false_iff_ne, Bool.and_eq_true, Bool.or_eq_true, Bool.and_eq_false_iff, Bool.or_eq_false_iff, ge_iff_le, gt_iff_lt, Int.not_lt, Int.not_le, ne_eq, Decidable.not_not, bne_eq_false_iff_eq] at hg7_78
          refine g1 19 true 78 79 21 rfl rfl rfl rfl rfl ?_
          refine s1 79 600 21 rfl rfl rfl rfl rfl rfl trivial ?_
          refine g1 19 true 78 80 22 rfl rfl rfl rfl rfl ?_
          refine s1 80 608 22 rfl rfl rfl rfl rfl rfl (by first | trivial | omega | (simp only [List.length_map, List.length_append, List.length_cons, List.length_nil] at *; omega)) ?_
          refine s1 81 616 23 rfl rfl rfl rfl rfl rfl trivial ?_
          refine s1 82 624 24 rfl rfl rfl rfl rfl rfl trivial ?_
          refine ask 82 rfl (fun hg7_82 => ?_) (fun hg7_82 => ?_)
          · skip
            try simp only [decide_eq_true_eq, decide_eq_false_iff_not, Bool.not_eq_true', Bool.not_eq_false', beq_iff_eq, bne_iff_ne, beq_eq_false_iff_ne, Bool.and_eq_true, Bool.or_eq_true, Bool.and_eq_false_iff, Bool.or_eq_false_iff, ge_iff_le, gt_iff_lt, Int.not_lt, Int.not_le, ne_eq, Decidable.not_not, bne_eq_false_iff_eq] at hg7_82
            refine g1 23 true 82 83 25 rfl rfl rfl rfl rfl ?_
            refine s1 83 632 25 rfl rfl rfl rfl rfl rfl trivial ?_
            refine g1 23 true 82 84 26 rfl rfl rfl rfl rfl ?_
            refine s1 84 640 26 rfl rfl rfl rfl rfl rfl (by first | trivial | omega | (simp only [List.length_map, List.length_append, List.length_cons, List.length_nil] at *; omega)) ?_
            refine s1 85 648 27 rfl rfl rfl rfl rfl rfl trivial ?_
            refine s1 86 656 28 rfl rfl rfl rfl rfl rfl trivial ?_
            refine ask 86 rfl (fun hg7_86 => ?_) (fun hg7_86 => ?_)
            · skip
              try simp only [decide_eq_true_eq, decide_eq_false_iff_not, Bool.not_eq_true', Bool.not_eq_false', beq_iff_eq, bne_iff_ne, beq_eq_false_iff_ne, Bool.and_eq_true, Bool.or_eq_true, Bool.and_eq_false_iff, Bool.or_eq_false_iff, ge_iff_le, gt_iff_lt, Int.not_lt, Int.not_le, ne_eq, Decidable.not_not, bne_eq_false_iff_eq] at hg7_86
              refine g1 27 true 86 87 29 rfl rfl rfl rfl rfl ?_
              refine s1 87 664 29 rfl rfl rfl rfl rfl rfl trivial ?_
              refine g1 27 true 86 88 30 rfl rfl rfl rfl rfl ?_
              refine s1 88 672 30 rfl rfl rfl rfl rfl rfl (by first | trivial | omega | (simp only [List.length_map, List.length_append, List.length_cons, List.length_nil] at *; omega)) ?_
              refine s1 89 680 31 rfl rfl rfl rfl rfl rfl trivial ?_
              refine s1 90 688 32 rfl rfl rfl rfl rfl rfl trivial ?_
              refine ask 90 rfl (fun hg7_90 => ?_) (fun hg7_90 => ?_)
              · skip
                try simp only [decide_eq_true_eq, decide_eq_false_iff_not, Bool.not_eq_true', Bool.not_eq_false', beq_iff_eq, bne_iff_ne, beq_eq_false_iff_ne, Bool.and_eq_true, Bool.or_eq_true, Bool.and_eq_false_iff, Bool.or_eq_false_iff, ge_iff_le, gt_iff_lt, Int.not_lt, Int.not_le, ne_eq, Decidable.not_not, bne_eq_false_iff_eq] at hg7_90
                refine g1 31 true 90 91 33 rfl rfl rfl rfl rfl ?_
                refine s1 91 696 33 rfl rfl rfl rfl rfl rfl trivial ?_
                refine g1 31 true 90 92 34 rfl rfl rfl rfl rfl ?_
                refine s1 92 704 34 rfl rfl rfl rfl rfl rfl (by first | trivial | omega | (simp only [List.length_map, List.length_append, List.length_cons, List.length_nil] at *; omega)) ?_
                refine s1 93 712 35 rfl rfl rfl rfl rfl rfl trivial ?_
                refine s1 4 720 36 rfl rfl rfl rfl rfl rfl trivial ?_
                refine e1 728 rfl ?_
                refine keep [4] rfl ?_
                refine W_ret ?_
                refine tr ?_
                exact out1 4 (SV.b true) (π := []) (hout := []) Try.results12 rfl (by first | rfl | (simp; done) | (simp [*]; done)) rfl rfl trivial rfl
              · skip
                try simp only [decide_eq_true_eq, decide_eq_false_iff_not, Bool.not_eq_true', Bool.not_eq_false', beq_iff_eq, bne_iff_ne, beq_eq_false_iff_ne, Bool.and_eq_true, Bool.or_eq_true, Bool.and_eq_false_iff, Bool.or_eq_false_iff, ge_iff_le, gt_iff_lt, Int.not_lt, Int.not_le, ne_eq, Decidable.not_not, bne_eq_false_iff_eq] at hg7_90
                all_goals (exfalso; first | (simp at hg7_90; done) | (simp at hg7_90; omega) | (simp_all; omega) | omega)
            · skip
              try simp only [decide_eq_true_eq, decide_eq_false_iff_not, Bool.not_eq_true', Bool.not_eq_false', beq_iff_eq, bne_iff_ne, beq_eq_false_iff_ne, Bool.and_eq_true, Bool.or_eq_true, Bool.and_eq_false_iff, Bool.or_eq_false_iff, ge_iff_le, gt_iff_lt, Int.not_lt, Int.not_le, ne_eq, Decidable.not_not, bne_eq_false_iff_eq] at hg7_86
              all_goals (exfalso; first | (simp at hg7_86; done) | (simp at hg7_86; omega) | (simp_all; omega) | omega)
          · skip
            try simp only [decide_eq_true_eq, decide_eq_false_iff_not, Bool.not_eq_true', Bool.not_eq_false', beq_iff_eq, bne_iff_ne, beq_eq_false_iff_ne, Bool.and_eq_true, Bool.or_eq_true, Bool.and_eq_false_iff, Bool.or_eq_false_iff, ge_iff_le, gt_iff_lt, Int.not_lt, Int.not_le, ne_eq, Decidable.not_not, bne_eq_false_iff_eq] at hg7_82
            all_goals (exfalso; first | (simp at hg7_82; done) | (simp at hg7_82; omega) | (simp_all; omega) | omega)
        · skip
          try simp only [decide_eq_true_eq, decide_eq_false_iff_not, Bool.not_eq_true', Bool.not_eq_false', beq_iff_eq, bne_iff_ne, beq_eq_false_iff_ne, Bool.and_eq_true, Bool.or_eq_true, Bool.and_eq_false_iff, Bool.or_eq_false_iff, ge_iff_le, gt_iff_lt, Int.not_lt, Int.not_le, ne_eq, Decidable.not_not, bne_eq_false_iff_eq] at hg7_78
          all_goals (exfalso; first | (simp at hg7_78; done) | (simp at hg7_78; omega) | (simp_all; omega) | omega)
      · skip
        try simp only [decide_eq_true_eq, decide_eq_false_iff_not, Bool.not_eq_true', Bool.not_eq_false', beq_iff_eq, bne_iff_ne, beq_eq_false_iff_ne, Bool.and_eq_true, Bool.or_eq_true, Bool.and_eq_false_iff, Bool.or_eq_false_iff, ge_iff_le, gt_iff_lt, Int.not_lt, Int.not_le, ne_eq, Decidable.not_not, bne_eq_false_iff_eq] at hg7_74
        all_goals (exfalso; first | (simp at hg7_74; done) | (simp at hg7_74; omega) | (simp_all; omega) | omega)
    · skip
      exact absurd hc6 (by decide)
  · skip
    try simp only [decide_eq_true_eq, decide_eq_false_iff_not, Bool.not_eq_true', Bool.not_eq_false', beq_iff_eq, bne_iff_ne, beq_eq_false_iff_ne, Bool.and_eq_true, Bool.or_eq_true, Bool.and_eq_false_iff, Bool.or_eq_false_iff, ge_iff_le, gt_iff_lt, Int.not_lt, Int.not_le, ne_eq, Decidable.not_not, bne_eq_false_iff_eq] at hg6_47
    refine g1 2 false 47 48 4 rfl rfl rfl rfl rfl ?_
    refine s1 48 352 4 rfl rfl rfl rfl rfl rfl trivial ?_
    refine g1 2 false 47 49 5 rfl rfl rfl rfl rfl ?_
    refine s1 49 360 5 rfl rfl rfl rfl rfl rfl (by first | trivial | omega | (simp only [List.length_map, List.length_append, List.length_cons, List.length_nil] at *; omega)) ?_
    refine s1 50 368 6 rfl rfl rfl rfl rfl rfl trivial ?_
    refine s1 51 376 7 rfl rfl rfl rfl rfl rfl trivial ?_
    refine ask 51 rfl (fun hg6_51 => ?_) (fun hg6_51 => ?_)
    · skip
      try simp only [decide_eq_true_eq, decide_eq_false_iff_not, Bool.not_eq_true', Bool.not_eq_false', beq_iff_eq, bne_iff_ne, beq_eq_false_iff_ne, Bool.and_eq_true, Bool.or_eq_true, Bool.and_eq_false_iff, Bool.or_eq_false_iff, ge_iff_le, gt_iff_lt, Int.not_lt, Int.not_le, ne_eq, Decidable.not_not, bne_eq_false_iff_eq] at hg6_51
      refine g0 6 false 51 52 8 rfl rfl rfl rfl rfl rfl ?_
      refine g0 6 false 51 53 9 rfl rfl rfl rfl rfl rfl ?_
      refine s1 54 400 10 rfl rfl rfl rfl rfl rfl trivial ?_
      refine s1 55 408 11 rfl rfl rfl rfl rfl rfl trivial ?_
      refine g0 10 false 55 56 12 rfl rfl rfl rfl rfl rfl ?_
      refine g0 10 false 55 57 13 rfl rfl rfl rfl rfl rfl ?_
      refine s1 58 432 14 rfl rfl rfl rfl rfl rfl trivial ?_
      refine e1 440 rfl ?_
      refine keep [5, 6, 7, 8, 9, 10, 11, 12, 13, 14, 58] rfl ?_
      refine q1 rfl (fun hc6 => ?_) (fun hc6 => ?_)
      · skip
        try simp only [decide_eq_true_eq, decide_eq_false_iff_not, Bool.not_eq_true', Bool.not_eq_false', beq_iff_eq, bne_iff_ne, beq_eq_false_iff_ne, Bool.and_eq_true, Bool.or_eq_true, Bool.and_eq_false_iff, Bool.or_eq_false_iff, ge_iff_le, gt_iff_lt, Int.not_lt, Int.not_le, ne_eq, Decidable.not_not, bne_eq_false_iff_eq] at hc6
        refine r1 ?_
        refine s1 59 440 1 rfl rfl rfl rfl rfl rfl trivial ?_
        refine s1 60 448 2 rfl rfl rfl rfl rfl rfl (by first | trivial | omega | (simp only [List.length_map, List.length_append, List.length_cons, List.length_nil] at *; omega)) ?_
        refine s1 61 456 3 rfl rfl rfl rfl rfl rfl trivial ?_
        refine s1 62 464 4 rfl rfl rfl rfl rfl rfl (by first | trivial | omega | (simp only [List.length_map, List.length_append, List.length_cons, List.length_nil] at *; omega)) ?_
        refine sA 63 472 5 rfl rfl rfl rfl rfl rfl rfl rfl rfl (by unfold inRange; omega) ?_
        refine s1 64 480 6 rfl rfl rfl rfl rfl rfl trivial ?_
        refine s1 65 488 7 rfl rfl rfl rfl rfl rfl (by first | trivial | omega | (simp only [List.length_map, List.length_append, List.length_cons, List.length_nil] at *; omega)) ?_
        refine sA 66 496 8 rfl rfl rfl rfl rfl rfl rfl rfl rfl (by unfold inRange; omega) ?_
        refine s1 67 504 9 rfl rfl rfl rfl rfl rfl trivial ?_
        refine s1 68 512 10 rfl rfl rfl rfl rfl rfl (by first | trivial | omega | (simp only [List.length_map, List.length_append, List.length_cons, List.length_nil] at *; omega)) ?_
        refine sA 69 520 11 rfl rfl rfl rfl rfl rfl rfl rfl rfl (by unfold inRange; omega) ?_
        refine s1 70 528 12 rfl rfl rfl rfl rfl rfl trivial ?_
        refine s1 71 536 13 rfl rfl rfl rfl rfl rfl (by first | trivial | omega | (simp only [List.length_map, List.length_append, List.length_cons, List.length_nil] at *; omega)) ?_
        refine sA 72 544 14 rfl rfl rfl rfl rfl rfl rfl rfl rfl (by unfold inRange; omega) ?_
        refine s1 73 552 15 rfl rfl rfl rfl rfl rfl (by first | trivial | omega | (simp only [List.length_map, List.length_append, List.length_cons, List.length_nil] at *; omega)) ?_
        refine s1 74 560 16 rfl rfl rfl rfl rfl rfl trivial ?_
        refine ask 74 rfl (fun hg7_74 => ?_) (fun hg7_74 => ?_)
        · skip
          try simp only [decide_eq_true_eq, decide_eq_false_iff_not, Bool.not_eq_true', Bool.not_eq_false', beq_iff_eq, bne_iff_ne, beq_eq_false_iff_ne, Bool.and_eq_true, Bool.or_eq_true, Bool.and_eq_false_iff, Bool.or_eq_false_iff, ge_iff_le, gt_iff_lt, Int.not_lt, Int.not_le, ne_eq, Decidable.not_not, bne_eq_false_iff_eq] at hg7_74
          refine g1 15 true 74 75 17 rfl rfl rfl rfl rfl ?_
          refine s1 75 568 17 rfl rfl rfl rfl rfl rfl trivial ?_
          refine g1 15 true 74 76 18 rfl rfl rfl rfl rfl ?_
          refine s1 76 576 18 rfl rfl rfl rfl rfl rfl (by first | trivial | omega | (simp only [List.length_map, List.length_append, List.length_cons, List.length_nil] at *; omega)) ?_
          refine s1 77 584 19 rfl rfl rfl rfl rfl rfl trivial ?_
          refine s1 78 592 20 rfl rfl rfl rfl rfl rfl trivial ?_
          refine ask 78 rfl (fun hg7_78 => ?_) (fun hg7_78 => ?_)
          · skip
            try simp only [decide_eq_true_eq, decide_eq_false_iff_not, Bool.not_eq_true', Bool.not_eq_false', beq_iff_eq, bne_iff_ne, beq_eq_false_iff_ne, Bool.and_eq_true, Bool.or_eq_true, Bool.and_eq_false_iff, Bool.or_eq_false_iff, ge_iff_le, gt_iff_lt, Int.not_lt, Int.not_le, ne_eq, Decidable.not_not, bne_eq_false_iff_eq] at hg7_78
            refine g1 19 true 78 79 21 rfl rfl rfl rfl rfl ?_
            refine s1 79 600 21 rfl rfl rfl rfl rfl rfl trivial ?_
            refine g1 19 true 78 80 22 rfl rfl rfl rfl rfl ?_
            refine s1 80 608 22 rfl rfl rfl rfl rfl rfl (by first | trivial | omega | (simp only [List.length_map, List.length_append, List.length_cons, List.length_nil] at *; omega)) ?_
            refine s1 81 616 23 rfl rfl rfl rfl rfl rfl trivial ?_
            refine s1 82 624 24 rfl rfl rfl rfl rfl rfl trivial ?_
            refine ask 82 rfl (fun hg7_82 => ?_) (fun hg7_82 => ?_)
            · skip
              try simp only [decide_eq_true_eq, decide_eq_false_iff_not, Bool.not_eq_true', Bool.not_eq_false', beq_iff_eq, bne_iff_ne, beq_eq_false_iff_ne, Bool.and_eq_true, Bool.or_eq_true, Bool.and_eq_false_iff, Bool.or_eq_false_iff, ge_iff_le, gt_iff_lt, Int.not_lt, Int.not_le, ne_eq, Decidable.not_not, bne_eq_false_iff_eq] at hg7_82
              refine g1 23 true 82 83 25 rfl rfl rfl rfl rfl ?_
              refine s1 83 632 25 rfl rfl rfl rfl rfl rfl trivial ?_
              refine g1 23 true 82 84 26 rfl rfl rfl rfl rfl ?_
              refine s1 84 640 26 rfl rfl rfl rfl rfl rfl (by first | trivial | omega | (simp only [List.length_map, List.length_append, List.length_cons, List.length_nil] at *; omega)) ?_
              refine s1 85 648 27 rfl rfl rfl rfl rfl rfl trivial ?_
              refine s1 86 656 28 rfl rfl rfl rfl rfl rfl trivial ?_
              refine ask 86 rfl (fun hg7_86 => ?_) (fun hg7_86 => ?_)
              · skip
                try simp only [decide_eq_true_eq, decide_eq_false_iff_not, Bool.not_eq_true', Bool.not_eq_false', beq_iff_eq, bne_iff_ne, beq_eq_false_iff_ne, Bool.and_eq_true, Bool.or_eq_true, Bool.and_eq_false_iff, Bool.or_eq_false_iff, ge_iff_le, gt_iff_lt, Int.not_lt, Int.not_le, ne_eq, Decidable.not_not, bne_eq_false_iff_eq] at hg7_86
                refine g1 27 true 86 87 29 rfl rfl rfl rfl rfl ?_
                refine s1 87 664 29 rfl rfl rfl rfl rfl rfl trivial ?_
                refine g1 27 true 86 88 30 rfl rfl rfl rfl rfl ?_
                refine s1 88 672 30 rfl rfl rfl rfl rfl rfl (by first | trivial | omega | (simp only [List.length_map, List.length_append, List.length_cons, List.length_nil] at *; omega)) ?_
                refine s1 89 680 31 rfl rfl rfl rfl rfl rfl trivial ?_
                refine s1 90 688 32 rfl rfl rfl rfl rfl rfl trivial ?_
                refine ask 90 rfl (fun hg7_90 => ?_) (fun hg7_90 => ?_)
                · skip
                  try simp only [decide_eq_true_eq, decide_eq_false_iff_not, Bool.not_eq_true', Bool.not_eq_false', beq_iff_eq, bne_iff_ne, beq_eq_false_iff_ne, Bool.and_eq_true, Bool.or_eq_true, Bool.and_eq_false_iff, Bool.or_eq_false_iff, ge_iff_le, gt_iff_lt, Int.not_lt, Int.not_le, ne_eq, Decidable.not_not, bne_eq_false_iff_eq] at hg7_90
                  refine g1 31 true 90 91 33 rfl rfl rfl rfl rfl ?_
                  refine s1 91 696 33 rfl rfl rfl rfl rfl rfl trivial ?_
                  refine g1 31 true 90 92 34 rfl rfl rfl rfl rfl ?_
                  refine s1 92 704 34 rfl rfl rfl rfl rfl rfl (by first | trivial | omega | (simp only [List.length_map, List.length_append, List.length_cons, List.length_nil] at *; omega)) ?_
                  refine s1 93 712 35 rfl rfl rfl rfl rfl rfl trivial ?_
                  refine s1 4 720 36 rfl rfl rfl rfl rfl rfl trivial ?_
                  refine e1 728 rfl ?_
                  refine keep [4] rfl ?_
                  refine W_ret ?_
                  refine tr ?_
                  exact out1 4 (SV.b true) (π := []) (hout := []) Try.results12 rfl (by first | rfl | (simp; done) | (simp [*]; done)) rfl rfl trivial rfl
                · skip
                  try simp only [decide_eq_true_eq, decide_eq_false_iff_not, Bool.not_eq_true', Bool.not_eq_false', beq_iff_eq, bne_iff_ne, beq_eq_false_iff_ne, Bool.and_eq_true, Bool.or_eq_true, Bool.and_eq_false_iff, Bool.or_eq_false_iff, ge_iff_le, gt_iff_lt, Int.not_lt, Int.not_le, ne_eq, Decidable.not_not, bne_eq_false_iff_eq] at hg7_90
                  all_goals (exfalso; first | (simp at hg7_90; done) | (simp at hg7_90; omega) | (simp_all; omega) | omega)
              · skip
                try simp only [decide_eq_true_eq, decide_eq_false_iff_not, Bool.not_eq_true', Bool.not_eq_false', beq_iff_eq, bne_iff_ne, beq_eq_false_iff_ne, Bool.and_eq_true, Bool.or_eq_true, Bool.and_eq_false_iff, Bool.or_eq_false_iff, ge_iff_le, gt_iff_lt, Int.not_lt, Int.not_le, ne_eq, Decidable.not_not, bne_eq_false_iff_eq] at hg7_86
                all_goals (exfalso; first | (simp at hg7_86; done) | (simp at hg7_86; omega) | (simp_all; omega) | omega)
            · skip
              try simp only [decide_eq_true_eq, decide_eq_false_iff_not, Bool.not_eq_true', Bool.not_eq_false', beq_iff_eq, bne_iff_ne, beq_eq_false_iff_ne, Bool.and_eq_true, Bool.or_eq_true, Bool.and_eq_false_iff, Bool.or_eq_false_iff, ge_iff_le, gt_iff_lt, Int.not_lt, Int.not_le, ne_eq, Decidable.not_not, bne_eq_false_iff_eq] at hg7_82
              all_goals (exfalso; first | (simp at hg7_82; done) | (simp at hg7_82; omega) | (simp_all; omega) | omega)
          · skip
            try simp only [decide_eq_true_eq, decide_eq_false_iff_not, Bool.not_eq_true', Bool.not_eq_false', beq_iff_eq, bne_iff_ne, beq_eq_false_iff_ne, Bool.and_eq_true, Bool.or_eq_true, Bool.and_eq_false_iff, Bool.or_eq_false_iff, ge_iff_le, gt_iff_lt, Int.not_lt, Int.not_le, ne_eq, Decidable.not_not, bne_eq_false_iff_eq] at hg7_78
            all_goals (exfalso; first | (simp at hg7_78; done) | (simp at hg7_78; omega) | (simp_all; omega) | omega)
        · skip
          try simp only [decide_eq_true_eq, decide_eq_false_iff_not, Bool.not_eq_true', Bool.not_eq_false', beq_iff_eq, bne_iff_ne, beq_eq_false_iff_ne, Bool.and_eq_true, Bool.or_eq_true, Bool.and_eq_false_iff, Bool.or_eq_false_iff, ge_iff_le, gt_iff_lt, Int.not_lt, Int.not_le, ne_eq, Decidable.not_not, bne_eq_false_iff_eq] at hg7_74
          all_goals (exfalso; first | (simp at hg7_74; done) | (simp at hg7_74; omega) | (simp_all; omega) | omega)
      · skip
        exact absurd hc6 (by decide)
    · skip
      try simp only [decide_eq_true_eq, decide_eq_false_iff_not, Bool.not_eq_true', Bool.not_eq_false', beq_iff_eq, bne_iff_ne, beq_eq_false_iff_ne, Bool.and_eq_true, Bool.or_eq_true, Bool.and_eq_false_iff, Bool.or_eq_false_iff, ge_iff_le, gt_iff_lt, Int.not_lt, Int.not_le, ne_eq, Decidable.not_not, bne_eq_false_iff_eq] at hg6_51
      refine g1 6 false 51 52 8 rfl rfl rfl rfl rfl ?_
      refine s1 52 384 8 rfl rfl rfl rfl rfl rfl trivial ?_
      refine g1 6 false 51 53 9 rfl rfl rfl rfl rfl ?_
      refine s1 53 392 9 rfl rfl rfl rfl rfl rfl (by first | trivial | omega | (simp only [List.length_map, List.length_append, List.length_cons, List.length_nil] at *; omega)) ?_
      refine s1 54 400 10 rfl rfl rfl rfl rfl rfl trivial ?_
      refine s1 55 408 11 rfl rfl rfl rfl rfl rfl trivial ?_
      refine ask 55 rfl (fun hg6_55 => ?_) (fun hg6_55 => ?_)
      · skip
        try simp only [decide_eq_true_eq, decide_eq_false_iff_not, Bool.not_eq_true', Bool.not_eq_false', beq_iff_eq, bne_iff_ne, beq_eq_false_iff_ne, Bool.and_eq_true, Bool.or_eq_true, Bool.and_eq_false_iff, Bool.or_eq_false_iff, ge_iff_le, gt_iff_lt, Int.not_lt, Int.not_le, ne_eq, Decidable.not_not, bne_eq_false_iff_eq] at hg6_55
        refine g0 10 false 55 56 12 rfl rfl rfl rfl rfl rfl ?_
        refine g0 10 false 55 57 13 rfl rfl rfl rfl rfl rfl ?_
        refine s1 58 432 14 rfl rfl rfl rfl rfl rfl trivial ?_
        refine e1 440 rfl ?_
        refine keep [5, 6, 7, 8, 9, 10, 11, 12, 13, 14, 58] rfl ?_
        refine q1 rfl (fun hc6 => ?_) (fun hc6 => ?_)
        · skip
          try simp only [decide_eq_true_eq, decide_eq_false_iff_not, Bool.not_eq_true', Bool.not_eq_false', beq_iff_eq, bne_iff_ne, beq_eq_false_iff_ne, Bool.and_eq_true, Bool.or_eq_true, Bool.and_eq_false_iff, Bool.or_eq_false_iff, ge_iff_le, gt_iff_lt, Int.not_lt, Int.not_le, ne_eq, Decidable.not_not, bne_eq_false_iff_eq] at hc6
          refine r1 ?_
          refine s1 59 440 1 rfl rfl rfl rfl rfl rfl trivial ?_
          refine s1 60 448 2 rfl rfl rfl rfl rfl rfl (by first | trivial | omega | (simp only [List.length_map, List.length_append, List.length_cons, List.length_nil] at *; omega)) ?_
          refine s1 61 456 3 rfl rfl rfl rfl rfl rfl trivial ?_
          refine s1 62 464 4 rfl rfl rfl rfl rfl rfl (by first | trivial | omega | (simp only [List.length_map, List.length_append, List.length_cons, List.length_nil] at *; omega)) ?_
          refine sA 63 472 5 rfl rfl rfl rfl rfl rfl rfl rfl rfl (by unfold inRange; omega) ?_
          refine s1 64 480 6 rfl rfl rfl rfl rfl rfl trivial ?_
          refine s1 65 488 7 rfl rfl rfl rfl rfl rfl (by first | trivial | omega | (simp only [List.length_map, List.length_append, List.length_cons, List.length_nil] at *; omega)) ?_
          refine sA 66 496 8 rfl rfl rfl rfl rfl rfl rfl rfl rfl (by unfold inRange; omega) ?_
          refine s1 67 504 9 rfl rfl rfl rfl rfl rfl trivial ?_
          refine s1 68 512 10 rfl rfl rfl rfl rfl rfl (by first | trivial | omega | (simp only [List.length_map, List.length_append, List.length_cons, List.length_nil] at *; omega)) ?_
          refine sA 69 520 11 rfl rfl rfl rfl rfl rfl rfl rfl rfl (by unfold inRange; omega) ?_
          refine s1 70 528 12 rfl rfl rfl rfl rfl rfl trivial ?_
          refine s1 71 536 13 rfl rfl rfl rfl rfl rfl (by first | trivial | omega | (simp only [List.length_map, List.length_append, List.length_cons, List.length_nil] at *; omega)) ?_
          refine sA 72 544 14 rfl rfl rfl rfl rfl rfl rfl rfl rfl (by unfold inRange; omega) ?_
          refine s1 73 552 15 rfl rfl rfl rfl rfl rfl (by first | trivial | omega | (simp only [List.length_map, List.length_append, List.length_cons, List.length_nil] at *; omega)) ?_
          refine s1 74 560 16 rfl rfl rfl rfl rfl rfl trivial ?_
          refine ask 74 rfl (fun hg7_74 => ?_) (fun hg7_74 => ?_)
          · skip
            try simp only [decide_eq_true_eq, decide_eq_false_iff_not, Bool.not_eq_true', Bool.not_eq_false', beq_iff_eq, bne_iff_ne, beq_eq_false_iff_ne, Bool.and_eq_true, Bool.or_eq_true, Bool.and_eq_false_iff, Bool.or_eq_false_iff, ge_iff_le, gt_iff_lt, Int.not_lt, Int.not_le, ne_eq, Decidable.not_not, bne_eq_false_iff_eq] at hg7_74
            refine g1 15 true 74 75 17 rfl rfl rfl rfl rfl ?_
            refine s1 75 568 17 rfl rfl rfl rfl rfl rfl trivial ?_
            refine g1 15 true 74 76 18 rfl rfl rfl rfl rfl ?_
            refine s1 76 576 18 rfl rfl rfl rfl rfl rfl (by first | trivial | omega | (simp only [List.length_map, List.length_append, List.length_cons, List.length_nil] at *; omega)) ?_
            refine s1 77 584 19 rfl rfl rfl rfl rfl rfl trivial ?_
            refine s1 78 592 20 rfl rfl rfl rfl rfl rfl trivial ?_
            refine ask 78 rfl (fun hg7_78 => ?_) (fun hg7_78 => ?_)
            · skip
              try simp only [decide_eq_true_eq, decide_eq_false_iff_not, Bool.not_eq_true', Bool.not_eq_false', beq_iff_eq, bne_iff_ne, beq_eq_false_iff_ne, Bool.and_eq_true, Bool.or_eq_true, Bool.and_eq_false_iff, Bool.or_eq_false_iff, ge_iff_le, gt_iff_lt, Int.not_lt, Int.not_le, ne_eq, Decidable.not_not, bne_eq_false_iff_eq] at hg7_78
              refine g1 19 true 78 79 21 rfl rfl rfl rfl rfl ?_
              refine s1 79 600 21 rfl rfl rfl rfl rfl rfl trivial ?_
              refine g1 19 true 78 80 22 rfl rfl rfl rfl rfl ?_
              refine s1 80 608 22 rfl rfl rfl rfl rfl rfl (by first | trivial | omega | (simp only [List.length_map, List.length_append, List.length_cons, List.length_nil] at *; omega)) ?_
              refine s1 81 616 23 rfl rfl rfl rfl rfl rfl trivial ?_
              refine s1 82 624 24 rfl rfl rfl rfl rfl rfl trivial ?_
              refine ask 82 rfl (fun hg7_82 => ?_) (fun hg7_82 => ?_)
              · skip
                try simp only [decide_eq_true_eq, decide_eq_false_iff_not, Bool.not_eq_true', Bool.not_eq_false', beq_iff_eq, bne_iff_ne, beq_eq_false_iff_ne, Bool.and_eq_true, Bool.or_eq_true, Bool.and_eq_false_iff, Bool.or_eq_false_iff, ge_iff_le, gt_iff_lt, Int.not_lt, Int.not_le, ne_eq, Decidable.not_not, bne_eq_false_iff_eq] at hg7_82
                refine g1 23 true 82 83 25 rfl rfl rfl rfl rfl ?_
                refine s1 83 632 25 rfl rfl rfl rfl rfl rfl trivial ?_
                refine g1 23 true 82 84 26 rfl rfl rfl rfl rfl ?_
                refine s1 84 640 26 rfl rfl rfl rfl rfl rfl (by first | trivial | omega | (simp only [List.length_map, List.length_append, List.length_cons, List.length_nil] at *; omega)) ?_
                refine s1 85 648 27 rfl rfl rfl rfl rfl rfl trivial ?_
                refine s1 86 656 28 rfl rfl rfl rfl rfl rfl trivial ?_
                refine ask 86 rfl (fun hg7_86 => ?_) (fun hg7_86 => ?_)
                · skip
                  try simp only [decide_eq_true_eq, decide_eq_false_iff_not, Bool.not_eq_true', Bool.not_eq_false', beq_iff_eq, bne_iff_ne, beq_eq_false_iff_ne, Bool.and_eq_true, Bool.or_eq_true, Bool.and_eq_false_iff, Bool.or_eq_false_iff, ge_iff_le, gt_iff_lt, Int.not_lt, Int.not_le, ne_eq, Decidable.not_not, bne_eq_false_iff_eq] at hg7_86
                  refine g1 27 true 86 87 29 rfl rfl rfl rfl rfl ?_
                  refine s1 87 664 29 rfl rfl rfl rfl rfl rfl trivial ?_
                  refine g1 27 true 86 88 30 rfl rfl rfl rfl rfl ?_
                  refine s1 88 672 30 rfl rfl rfl rfl rfl rfl (by first | trivial | omega | (simp only [List.length_map, List.length_append, List.length_cons, List.length_nil] at *; omega)) ?_
                  refine s1 89 680 31 rfl rfl rfl rfl rfl rfl trivial ?_
                  refine s1 90 688 32 rfl rfl rfl rfl rfl rfl trivial ?_
                  refine ask 90 rfl (fun hg7_90 => ?_) (fun hg7_90 => ?_)
                  · skip
                    try simp only [decide_eq_true_eq, decide_eq_false_iff_not, Bool.not_eq_true', Bool.not_eq_false', beq_iff_eq, bne_iff_ne, beq_eq_false_iff_ne, Bool.and_eq_true, Bool.or_eq_true, Bool.and_eq_false_iff, Bool.or_eq_false_iff, ge_iff_le, gt_iff_lt, Int.not_lt, Int.not_le, ne_eq, Decidable.not_not, bne_eq_false_iff_eq] at hg7_90
                    refine g1 31 true 90 91 33 rfl rfl rfl rfl rfl ?_
                    refine s1 91 696 33 rfl rfl rfl rfl rfl rfl trivial ?_
                    refine g1 31 true 90 92 34 rfl rfl rfl rfl rfl ?_
                    refine s1 92 704 34 rfl rfl rfl rfl rfl rfl (by first | trivial | omega | (simp only [List.length_map, List.length_append, List.length_cons, List.length_nil] at *; omega)) ?_
                    refine s1 93 712 35 rfl rfl rfl rfl rfl rfl trivial ?_
                    refine s1 4 720 36 rfl rfl rfl rfl rfl rfl trivial ?_
                    refine e1 728 rfl ?_
                    refine keep [4] rfl ?_
                    refine W_ret ?_
                    refine tr ?_
                    exact out1 4 (SV.b true) (π := []) (hout := []) Try.results12 rfl (by first | rfl | (simp; done) | (simp [*]; done)) rfl rfl trivial rfl
                  · skip
                    try simp only [decide_eq_true_eq, decide_eq_false_iff_not, Bool.not_eq_true', Bool.not_eq_false', beq_iff_eq, bne_iff_ne, beq_eq_false_iff_ne, Bool.and_eq_true, Bool.or_eq_true, Bool.and_eq_false_iff, Bool.or_eq_false_iff, ge_iff_le, gt_iff_lt, Int.not_lt, Int.not_le, ne_eq, Decidable.not_not, bne_eq_false_iff_eq] at hg7_90
                    all_goals (exfalso; first | (simp at hg7_90; done) | (simp at hg7_90; omega) | (simp_all; omega) | omega)
                · skip
                  try simp only [decide_eq_true_eq, decide_eq_false_iff_not, Bool.not_eq_true', Bool.not_eq_false', beq_iff_eq, bne_iff_ne, beq_eq_false_iff_ne, Bool.and_eq_true, Bool.or_eq_true, Bool.and_eq_false_iff, Bool.or_eq_false_iff, ge_iff_le, gt_iff_lt, Int.not_lt, Int.not_le, ne_eq, Decidable.not_not, bne_eq_false_iff_eq] at hg7_86
                  all_goals (exfalso; first | (simp at hg7_86; done) | (simp at hg7_86; omega) | (simp_all; omega) | omega)
              · skip
                try simp only [decide_eq_true_eq, decide_eq_false_iff_not, Bool.not_eq_true', Bool.not_eq_false', beq_iff_eq, bne_iff_ne, beq_eq_false_iff_ne, Bool.and_eq_true, Bool.or_eq_true, Bool.and_eq_false_iff, Bool.or_eq_false_iff, ge_iff_le, gt_iff_lt, Int.not_lt, Int.not_le, ne_eq, Decidable.not_not, bne_eq_false_iff_eq] at hg7_82
                all_goals (exfalso; first | (simp at hg7_82; done) | (simp at hg7_82; omega) | (simp_all; omega) | omega)
            · skip
              try simp only [decide_eq_true_eq, decide_eq_false_iff_not, Bool.not_eq_true', Bool.not_eq_false', beq_iff_eq, bne_iff_ne, beq_eq_false_iff_ne, Bool.and_eq_true, Bool.or_eq_true, Bool.and_eq_false_iff, Bool.or_eq_false_iff, ge_iff_le, gt_iff_lt, Int.not_lt, Int.not_le, ne_eq, Decidable.not_not, bne_eq_false_iff_eq] at hg7_78
              all_goals (exfalso; first | (simp at hg7_78; done) | (simp at hg7_78; omega) | (simp_all; omega) | omega)
          · skip
            try simp only [decide_eq_true_eq, decide_eq_false_iff_not, Bool.not_eq_true', Bool.not_eq_false', beq_iff_eq, bne_iff_ne, beq_eq_false_iff_ne, Bool.and_eq_true, Bool.or_eq_true, Bool.and_eq_false_iff, Bool.or_eq_false_iff, ge_iff_le, gt_iff_lt, Int.not_lt, Int.not_le, ne_eq, Decidable.not_not, bne_eq_false_iff_eq] at hg7_74
            all_goals (exfalso; first | (simp at hg7_74; done) | (simp at hg7_74; omega) | (simp_all; omega) | omega)
        · skip
          exact absurd hc6 (by decide)
      · skip
        try simp only [decide_eq_true_eq, decide_eq_false_iff_not, Bool.not_eq_true', Bool.not_eq_false', beq_iff_eq, bne_iff_ne, beq_eq_false_iff_ne, Bool.and_eq_true, Bool.or_eq_true, Bool.and_eq_false_iff, Bool.or_eq_false_iff, ge_iff_le, gt_iff_lt, Int.not_lt, Int.not_le, ne_eq, Decidable.not_not, bne_eq_false_iff_eq] at hg6_55
        refine g1 10 false 55 56 12 rfl rfl rfl rfl rfl ?_
        refine s1 56 416 12 rfl rfl rfl rfl rfl rfl trivial ?_
        refine g1 10 false 55 57 13 rfl rfl rfl rfl rfl ?_
        refine s1 57 424 13 rfl rfl rfl rfl rfl rfl (by first | trivial | omega | (simp only [List.length_map, List.length_append, List.length_cons, List.length_nil] at *; omega)) ?_
        refine s1 58 432 14 rfl rfl rfl rfl rfl rfl trivial ?_
        refine e1 440 rfl ?_
        refine keep [5, 6, 7, 8, 9, 10, 11, 12, 13, 14, 58] rfl ?_
        refine q1 rfl (fun hc6 => ?_) (fun hc6 => ?_)
        · skip
          try simp only [decide_eq_true_eq, decide_eq_false_iff_not, Bool.not_eq_true', Bool.not_eq_false', beq_iff_eq, bne_iff_ne, beq_eq_false_iff_ne, Bool.and_eq_true, Bool.or_eq_true, Bool.and_eq_false_iff, Bool.or_eq_false_iff, ge_iff_le, gt_iff_lt, Int.not_lt, Int.not_le, ne_eq, Decidable.not_not, bne_eq_false_iff_eq] at hc6
          refine r1 ?_
          refine s1 59 440 1 rfl rfl rfl rfl rfl rfl trivial ?_
          refine s1 60 448 2 rfl rfl rfl rfl rfl rfl (by first | trivial | omega | (simp only [List.length_map, List.length_append, List.length_cons, List.length_nil] at *; omega)) ?_
          refine s1 61 456 3 rfl rfl rfl rfl rfl rfl trivial ?_
          refine s1 62 464 4 rfl rfl rfl rfl rfl rfl (by first | trivial | omega | (simp only [List.length_map, List.length_append, List.length_cons, List.length_nil] at *; omega)) ?_
          refine sA 63 472 5 rfl rfl rfl rfl rfl rfl rfl rfl rfl (by unfold inRange; omega) ?_
          refine s1 64 480 6 rfl rfl rfl rfl rfl rfl trivial ?_
          refine s1 65 488 7 rfl rfl rfl rfl rfl rfl (by first | trivial | omega | (simp only [List.length_map, List.length_append, List.length_cons, List.length_nil] at *; omega)) ?_
          refine sA 66 496 8 rfl rfl rfl rfl rfl rfl rfl rfl rfl (by unfold inRange; omega) ?_
          refine s1 67 504 9 rfl rfl rfl rfl rfl rfl trivial ?_
          refine s1 68 512 10 rfl rfl rfl rfl rfl rfl (by first | trivial | omega | (simp only [List.length_map, List.length_append, List.length_cons, List.length_nil] at *; omega)) ?_
          refine sA 69 520 11 rfl rfl rfl rfl rfl rfl rfl rfl rfl (by unfold inRange; omega) ?_
          refine s1 70 528 12 rfl rfl rfl rfl rfl rfl trivial ?_
          refine s1 71 536 13 rfl rfl rfl rfl rfl rfl (by first | trivial | omega | (simp only [List.length_map, List.length_append, List.length_cons, List.length_nil] at *; omega)) ?_
          refine sA 72 544 14 rfl rfl rfl rfl rfl rfl rfl rfl rfl (by unfold inRange; omega) ?_
          refine s1 73 552 15 rfl rfl rfl rfl rfl rfl (by first | trivial | omega | (simp only [List.length_map, List.length_append, List.length_cons, List.length_nil] at *; omega)) ?_
          refine s1 74 560 16 rfl rfl rfl rfl rfl rfl trivial ?_
          refine ask 74 rfl (fun hg7_74 => ?_) (fun hg7_74 => ?_)
          · skip
            try simp only [decide_eq_true_eq, decide_eq_false_iff_not, Bool.not_eq_true', Bool.not_eq_false', beq_iff_eq, bne_iff_ne, beq_eq_false_iff_ne, Bool.and_eq_true, Bool.or_eq_true, Bool.and_eq_false_iff, Bool.or_eq_false_iff, ge_iff_le, gt_iff_lt, Int.not_lt, Int.not_le, ne_eq, Decidable.not_not, bne_eq_false_iff_eq] at hg7_74
            refine g1 15 true 74 75 17 rfl rfl rfl rfl rfl ?_
            refine s1 75 568 17 rfl rfl rfl rfl rfl rfl trivial ?_
            refine g1 15 true 74 76 18 rfl rfl rfl rfl rfl ?_
            refine s1 76 576 18 rfl rfl rfl rfl rfl rfl (by first | trivial | omega | (simp only [List.length_map, List.length_append, List.length_cons, List.length_nil] at *; omega)) ?_
            refine s1 77 584 19 rfl rfl rfl rfl rfl rfl trivial ?_
            refine s1 78 592 20 rfl rfl rfl rfl rfl rfl trivial ?_
            refine ask 78 rfl (fun hg7_78 => ?_) (fun hg7_78 => ?_)
            · skip
              try simp only [decide_eq_true_eq, decide_eq_false_iff_not, Bool.not_eq_true', Bool.not_eq_false', beq_iff_eq, bne_iff_ne, beq_eq_false_iff_ne, Bool.and_eq_true, Bool.or_eq_true, Bool.and_eq_false_iff, Bool.or_eq_false_iff, ge_iff_le, gt_iff_lt, Int.not_lt, Int.not_le, ne_eq, Decidable.not_not, bne_eq_false_iff_eq] at hg7_78
              refine g1 19 true 78 79 21 rfl rfl rfl rfl rfl ?_
              refine s1 79 600 21 rfl rfl rfl rfl rfl rfl trivial ?_
              refine g1 19 true 78 80 22 rfl rfl rfl rfl rfl ?_
              refine s1 80 608 22 rfl rfl rfl rfl rfl rfl (by first | trivial | omega | (simp only [List.length_map, List.length_append, List.length_cons, List.length_nil] at *; omega)) ?_
              refine s1 81 616 23 rfl rfl rfl rfl rfl rfl trivial ?_
              refine s1 82 624 24 rfl rfl rfl rfl rfl rfl trivial ?_
              refine ask 82 rfl (fun hg7_82 => ?_) (fun hg7_82 => ?_)
              · skip
                try simp only [decide_eq_true_eq, decide_eq_false_iff_not, Bool.not_eq_true', Bool.not_eq_false', beq_iff_eq, bne_iff_ne, beq_eq_false_iff_ne, Bool.and_eq_true, Bool.or_eq_true, Bool.and_eq_false_iff, Bool.or_eq_false_iff, ge_iff_le, gt_iff_lt, Int.not_lt, Int.not_le, ne_eq, Decidable.not_not, bne_eq_false_iff_eq] at hg7_82
                refine g1 23 true 82 83 25 rfl rfl rfl rfl rfl ?_
                refine s1 83 632 25 rfl rfl rfl rfl rfl rfl trivial ?_
                refine g1 23 true 82 84 26 rfl rfl rfl rfl rfl ?_
                refine s1 84 640 26 rfl rfl rfl rfl rfl rfl (by first | trivial | omega | (simp only [List.length_map, List.length_append, List.length_cons, List.length_nil] at *; omega)) ?_
                refine s1 85 648 27 rfl rfl rfl rfl rfl rfl trivial ?_
                refine s1 86 656 28 rfl rfl rfl rfl rfl rfl trivial ?_
                refine ask 86 rfl (fun hg7_86 => ?_) (fun hg7_86 => ?_)
                · skip
                  try simp only [decide_eq_true_eq, decide_eq_false_iff_not, Bool.not_eq_true', Bool.not_eq_false', beq_iff_eq, bne_iff_ne, beq_eq_false_iff_ne, Bool.and_eq_true, Bool.or_eq_true, Bool.and_eq_false_iff, Bool.or_eq_false_iff, ge_iff_le, gt_iff_lt, Int.not_lt, Int.not_le, ne_eq, Decidable.not_not, bne_eq_false_iff_eq] at hg7_86
                  refine g1 27 true 86 87 29 rfl rfl rfl rfl rfl ?_
                  refine s1 87 664 29 rfl rfl rfl rfl rfl rfl trivial ?_
                  refine g1 27 true 86 88 30 rfl rfl rfl rfl rfl ?_
                  refine s1 88 672 30 rfl rfl rfl rfl rfl rfl (by first | trivial | omega | (simp only [List.length_map, List.length_append, List.length_cons, List.length_nil] at *; omega)) ?_
                  refine s1 89 680 31 rfl rfl rfl rfl rfl rfl trivial ?_
                  refine s1 90 688 32 rfl rfl rfl rfl rfl rfl trivial ?_
                  refine ask 90 rfl (fun hg7_90 => ?_) (fun hg7_90 => ?_)
                  · skip
                    try simp only [decide_eq_true_eq, decide_eq_false_iff_not, Bool.not_eq_true', Bool.not_eq_false', beq_iff_eq, bne_iff_ne, beq_eq_false_iff_ne, Bool.and_eq_true, Bool.or_eq_true, Bool.and_eq_false_iff, Bool.or_eq_false_iff, ge_iff_le, gt_iff_lt, Int.not_lt, Int.not_le, ne_eq, Decidable.not_not, bne_eq_false_iff_eq] at hg7_90
                    refine g1 31 true 90 91 33 rfl rfl rfl rfl rfl ?_
                    refine s1 91 696 33 rfl rfl rfl rfl rfl rfl trivial ?_
                    refine g1 31 true 90 92 34 rfl rfl rfl rfl rfl ?_
                    refine s1 92 704 34 rfl rfl rfl rfl rfl rfl (by first | trivial | omega | (simp only [List.length_map, List.length_append, List.length_cons, List.length_nil] at *; omega)) ?_
                    refine s1 93 712 35 rfl rfl rfl rfl rfl rfl trivial ?_
                    refine s1 4 720 36 rfl rfl rfl rfl rfl rfl trivial ?_
                    refine e1 728 rfl ?_
                    refine keep [4] rfl ?_
                    refine W_ret ?_
                    refine tr ?_
                    exact out1 4 (SV.b true) (π := []) (hout := []) Try.results12 rfl (by first | rfl | (simp; done) | (simp [*]; done)) rfl rfl trivial rfl
                  · skip
                    try simp only [decide_eq_true_eq, decide_eq_false_iff_not, Bool.not_eq_true', Bool.not_eq_false', beq_iff_eq, bne_iff_ne, beq_eq_false_iff_ne, Bool.and_eq_true, Bool.or_eq_true, Bool.and_eq_false_iff, Bool.or_eq_false_iff, ge_iff_le, gt_iff_lt, Int.not_lt, Int.not_le, ne_eq, Decidable.not_not, bne_eq_false_iff_eq] at hg7_90
                    all_goals (exfalso; first | (simp at hg7_90; done) | (simp at hg7_90; omega) | (simp_all; omega) | omega)
                · skip
                  try simp only [decide_eq_true_eq, decide_eq_false_iff_not, Bool.not_eq_true', Bool.not_eq_false', beq_iff_eq, bne_iff_ne, beq_eq_false_iff_ne, Bool.and_eq_true, Bool.or_eq_true, Bool.and_eq_false_iff, Bool.or_eq_false_iff, ge_iff_le, gt_iff_lt, Int.not_lt, Int.not_le, ne_eq, Decidable.not_not, bne_eq_false_iff_eq] at hg7_86
                  all_goals (exfalso; first | (simp at hg7_86; done) | (simp at hg7_86; omega) | (simp_all; omega) | omega)
              · skip
                try simp only [decide_eq_true_eq, decide_eq_false_iff_not, Bool.not_eq_true', Bool.not_eq_false', beq_iff_eq, bne_iff_ne, beq_eq_false_iff_ne, Bool.and_eq_true, Bool.or_eq_true, Bool.and_eq_false_iff, Bool.or_eq_false_iff, ge_iff_le, gt_iff_lt, Int.not_lt, Int.not_le, ne_eq, Decidable.not_not, bne_eq_false_iff_eq] at hg7_82
                all_goals (exfalso; first | (simp at hg7_82; done) | (simp at hg7_82; omega) | (simp_all; omega) | omega)
            · skip
              try simp only [decide_eq_true_eq, decide_eq_false_iff_not, Bool.not_eq_true', Bool.not_eq_false', beq_iff_eq, bne_iff_ne, beq_eq_false_iff_ne, Bool.and_eq_true, Bool.or_eq_true, Bool.and_eq_false_iff, Bool.or_eq_false_iff, ge_iff_le, gt_iff_lt, Int.not_lt, Int.not_le, ne_eq, Decidable.not_not, bne_eq_false_iff_eq] at hg7_78
              all_goals (exfalso; first | (simp at hg7_78; done) | (simp at hg7_78; omega) | (simp_all; omega) | omega)
          · skip
            try simp only [decide_eq_true_eq, decide_eq_false_iff_not, Bool.not_eq_true', Bool.not_eq_false', beq_iff_eq, bne_iff_ne, beq_eq_false_iff_ne, Bool.and_eq_true, Bool.or_eq_true, Bool.and_eq_false_iff, Bool.or_eq_false_iff, ge_iff_le, gt_iff_lt, Int.not_lt, Int.not_le, ne_eq, Decidable.not_not, bne_eq_false_iff_eq] at hg7_74
            all_goals (exfalso; first | (simp at hg7_74; done) | (simp at hg7_74; omega) | (simp_all; omega) | omega)
        · skip
          exfalso; simp at hc6; omega

theorem law_all (threads slots : Int) : Spec Try.prog GV 12 [SV.i threads, SV.i slots] [] (fun r _ => r = SV.b true) := by
  by_cases hr : 1 ≤ threads ∧ threads ≤ 4 ∧ 1 ≤ slots ∧ slots ≤ 8
  · exact law_yes threads slots hr
  · exact law_no threads slots hr

end Go.Proofs.Ytnmbdggdilbdaaa.Nice
