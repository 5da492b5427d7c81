/- The codes of package sema, and the law SemaCodes. -/
import Derived.Test.YtnmbdggdilbdaaaCodeMay
namespace Go.Proofs.Ytnmbdggdilbdaaa.Nice
open Go
set_option linter.unusedVariables false
set_option linter.unusedSimpArgs false
set_option maxRecDepth 100000
set_option maxHeartbeats 4000000
abbrev st_again : ByteArray := ⟨#[97, 103, 97, 105, 110]⟩
abbrev st_base : ByteArray := ⟨#[98, 97, 115, 101]⟩
abbrev st_next : ByteArray := ⟨#[110, 101, 120, 116]⟩
abbrev st_now : ByteArray := ⟨#[110, 111, 119]⟩
abbrev st_one : ByteArray := ⟨#[111, 110, 101]⟩
theorem may_any (room : Int) : Spec Try.prog GV 59 [SV.i room] [] (fun r ho => r = SV.b ((decide (1 ≤ room) && decide (room ≤ 4))) ∧ ho = []) := by
  refine start 9 0 Try.func59 rfl rfl rfl rfl ?_
  refine r1 ?_
  refine s1 2 0 1 rfl rfl rfl rfl rfl rfl trivial ?_
  refine e1 8 rfl ?_
  refine keep [0] rfl ?_
  refine r1 ?_
  refine s1 3 8 1 rfl rfl rfl rfl rfl rfl trivial ?_
  refine s1 4 16 2 rfl rfl rfl rfl rfl rfl (by first | trivial | omega | (simp only [List.length_map, List.length_append, List.length_cons, List.length_nil] at *; omega)) ?_
  refine s1 5 24 3 rfl rfl rfl rfl rfl rfl trivial ?_
  refine ask 5 rfl (fun hg1_5 => ?_) (fun hg1_5 => ?_)
  · skip
    try simp only [decide_eq_true_eq, decide_eq_false_iff_not, Bool.not_eq_true', Bool.not_eq_false', beq_iff_eq, bne_iff_ne, beq_eq_false_iff_ne, Bool.and_eq_true, Bool.or_eq_true, Bool.and_eq_false_iff, Bool.or_eq_false_iff, ge_iff_le, gt_iff_lt, Int.not_lt, Int.not_le, ne_eq, Decidable.not_not, bne_eq_false_iff_eq] at hg1_5
    refine g1 2 true 5 6 4 rfl rfl rfl rfl rfl ?_
    refine s1 6 32 4 rfl rfl rfl rfl rfl rfl trivial ?_
    refine g1 2 true 5 7 5 rfl rfl rfl rfl rfl ?_
    refine s1 7 40 5 rfl rfl rfl rfl rfl rfl (by first | trivial | omega | (simp only [List.length_map, List.length_append, List.length_cons, List.length_nil] at *; omega)) ?_
    refine s1 8 48 6 rfl rfl rfl rfl rfl rfl trivial ?_
    refine s1 2 56 7 rfl rfl rfl rfl rfl rfl trivial ?_
    refine e1 64 rfl ?_
    refine keep [2] rfl ?_
    refine W_ret ?_
    exact out1 2 (SV.b ((decide (1 ≤ room) && decide (room ≤ 4)))) (π := []) (hout := []) Try.results59 rfl (by show SV.b _ = SV.b _; refine congrArg SV.b (Bool.eq_iff_iff.2 ?_); simp at *; try omega) rfl rfl trivial ⟨rfl, rfl⟩
  · skip
    try simp only [decide_eq_true_eq, decide_eq_false_iff_not, Bool.not_eq_true', Bool.not_eq_false', beq_iff_eq, bne_iff_ne, beq_eq_false_iff_ne, Bool.and_eq_true, Bool.or_eq_true, Bool.and_eq_false_iff, Bool.or_eq_false_iff, ge_iff_le, gt_iff_lt, Int.not_lt, Int.not_le, ne_eq, Decidable.not_not, bne_eq_false_iff_eq] at hg1_5
    refine g0 2 true 5 6 4 rfl rfl rfl rfl rfl rfl ?_
    refine g0 2 true 5 7 5 rfl rfl rfl rfl rfl rfl ?_
    refine s1 8 48 6 rfl rfl rfl rfl rfl rfl trivial ?_
    refine s1 2 56 7 rfl rfl rfl rfl rfl rfl trivial ?_
    refine e1 64 rfl ?_
    refine keep [2] rfl ?_
    refine W_ret ?_
    exact out1 2 (SV.b ((decide (1 ≤ room) && decide (room ≤ 4)))) (π := []) (hout := []) Try.results59 rfl (by show SV.b _ = SV.b _; refine congrArg SV.b (Bool.eq_iff_iff.2 ?_); simp at *; try omega) rfl rfl trivial ⟨rfl, rfl⟩

theorem no_Words (room : Int) (hr : ¬ (1 ≤ room ∧ room ≤ 4)) : Spec Try.prog GV 28 [SV.i room] [] (fun r ho => r = SV.tup [.d .nils, SV.i 2] ∧ ho = []) := by
  refine start 9 0 Try.func28 rfl rfl rfl rfl ?_
  refine r1 ?_
  refine s1 2 0 1 rfl rfl rfl rfl rfl rfl trivial ?_
  refine s1 3 8 2 rfl rfl rfl rfl rfl rfl trivial ?_
  refine e1 16 rfl ?_
  refine keep [0] rfl ?_
  refine W_seq ?_
  refine r1 ?_
  refine s1 4 16 1 rfl rfl rfl rfl rfl rfl trivial ?_
  refine c1 (may_any room) [] [] 5 24 2 rfl rfl rfl rfl rfl rfl rfl rfl Try.func59 rfl rfl rfl rfl trivial rfl rfl ?_
  refine s1 6 32 3 rfl rfl rfl rfl rfl rfl trivial ?_
  refine e1 40 rfl ?_
  refine keep [0, 6] rfl ?_
  refine q1 rfl (fun hc1 => ?_) (fun hc1 => ?_)
  · skip
    try simp only [decide_eq_true_eq, decide_eq_false_iff_not, Bool.not_eq_true', Bool.not_eq_false', beq_iff_eq, bne_iff_ne, beq_eq_false_iff_ne, Bool.and_eq_true, Bool.or_eq_true, Bool.and_eq_false_iff, Bool.or_eq_false_iff, ge_iff_le, gt_iff_lt, Int.not_lt, Int.not_le, ne_eq, Decidable.not_not, bne_eq_false_iff_eq] at hc1
    refine r1 ?_
    refine s1 2 40 1 rfl rfl rfl rfl rfl rfl trivial ?_
    refine s1 3 48 2 rfl rfl rfl rfl rfl rfl trivial ?_
    refine e1 56 rfl ?_
    refine keep [2, 3] rfl ?_
    refine W_ret ?_
    refine tr ?_
    exact out2 2 3 (.d .nils) (SV.i 2) (π := []) (hout := []) Try.results28 rfl rfl rfl rfl rfl rfl trivial ⟨rfl, rfl⟩
  · skip
    exfalso; simp at hc1; omega

theorem yes_Words (room : Int) (hr : 1 ≤ room ∧ room ≤ 4) : Spec Try.prog GV 28 [SV.i room] [] (fun r ho => r = SV.tup [.sl 0 0 1, SV.i 0] ∧ ho = [none]) := by
  refine start 9 0 Try.func28 rfl rfl rfl rfl ?_
  refine r1 ?_
  refine s1 2 0 1 rfl rfl rfl rfl rfl rfl trivial ?_
  refine s1 3 8 2 rfl rfl rfl rfl rfl rfl trivial ?_
  refine e1 16 rfl ?_
  refine keep [0] rfl ?_
  refine W_seq ?_
  refine r1 ?_
  refine s1 4 16 1 rfl rfl rfl rfl rfl rfl trivial ?_
  refine c1 (may_any room) [] [] 5 24 2 rfl rfl rfl rfl rfl rfl rfl rfl Try.func59 rfl rfl rfl rfl trivial rfl rfl ?_
  refine s1 6 32 3 rfl rfl rfl rfl rfl rfl trivial ?_
  refine e1 40 rfl ?_
  refine keep [0, 6] rfl ?_
  refine q1 rfl (fun hc1 => ?_) (fun hc1 => ?_)
  · skip
    exfalso; simp at hc1; omega
  · skip
    try simp only [decide_eq_true_eq, decide_eq_false_iff_not, Bool.not_eq_true', Bool.not_eq_false', beq_iff_eq, bne_iff_ne, beq_eq_false_iff_ne, Bool.and_eq_true, Bool.or_eq_true, Bool.and_eq_false_iff, Bool.or_eq_false_iff, ge_iff_le, gt_iff_lt, Int.not_lt, Int.not_le, ne_eq, Decidable.not_not, bne_eq_false_iff_eq] at hc1
    refine W_skip ?_
    refine tn ?_
    refine r1 ?_
    refine s1 7 40 1 rfl rfl rfl rfl rfl rfl trivial ?_
    refine s1 8 48 2 rfl rfl rfl rfl rfl rfl trivial ?_
    refine s1 2 56 3 rfl rfl rfl rfl rfl rfl trivial ?_
    refine s1 3 64 4 rfl rfl rfl rfl rfl rfl trivial ?_
    refine e1 72 rfl ?_
    refine keep [2, 3] rfl ?_
    refine W_ret ?_
    exact out2 2 3 (.sl 0 0 1) (SV.i 0) (π := [48]) (hout := [none]) Try.results28 rfl rfl rfl rfl rfl rfl trivial ⟨rfl, rfl⟩

theorem no_stepT (room k : Int) (hr : ¬ (1 ≤ room ∧ room ≤ 4)) : Spec Try.prog GV 60 [SV.i room, SV.i k, SV.b true] [] (fun r ho => r = SV.tup [.d .nils, SV.i 2] ∧ ho = []) := by
  refine start 25 0 Try.func60 rfl rfl rfl rfl ?_
  refine r1 ?_
  refine s1 6 0 1 rfl rfl rfl rfl rfl rfl trivial ?_
  refine s1 7 8 2 rfl rfl rfl rfl rfl rfl trivial ?_
  refine e1 16 rfl ?_
  refine keep [0, 1, 2] rfl ?_
  refine W_seq ?_
  refine r1 ?_
  refine s1 9 16 1 rfl rfl rfl rfl rfl rfl trivial ?_
  refine c1 (may_any room) [] [] 10 24 2 rfl rfl rfl rfl rfl rfl rfl rfl Try.func59 rfl rfl rfl rfl trivial rfl rfl ?_
  refine s1 11 32 3 rfl rfl rfl rfl rfl rfl trivial ?_
  refine e1 40 rfl ?_
  refine keep [1, 2, 11] rfl ?_
  refine q1 rfl (fun hc1 => ?_) (fun hc1 => ?_)
  · skip
    try simp only [decide_eq_true_eq, decide_eq_false_iff_not, Bool.not_eq_true', Bool.not_eq_false', beq_iff_eq, bne_iff_ne, beq_eq_false_iff_ne, Bool.and_eq_true, Bool.or_eq_true, Bool.and_eq_false_iff, Bool.or_eq_false_iff, ge_iff_le, gt_iff_lt, Int.not_lt, Int.not_le, ne_eq, Decidable.not_not, bne_eq_false_iff_eq] at hc1
    refine r1 ?_
    refine s1 6 40 1 rfl rfl rfl rfl rfl rfl trivial ?_
    refine s1 7 48 2 rfl rfl rfl rfl rfl rfl trivial ?_
    refine e1 56 rfl ?_
    refine keep [6, 7] rfl ?_
    refine W_ret ?_
    refine tr ?_
    exact out2 6 7 (.d .nils) (SV.i 2) (π := []) (hout := []) Try.results60 rfl rfl rfl rfl rfl rfl trivial ⟨rfl, rfl⟩
  · skip
    exfalso; simp at hc1; omega

def B_stepT (room k : Int) : Bld := ((((((((mk []).set st_one 1).mark st_again).word 13 st_now st_base 0).iff 12 st_now st_again).doo k st_next st_now st_one).cas st_next st_base 0 st_now).iff 12 st_next st_again)
theorem yes_stepT (room k : Int) (hr : 1 ≤ room ∧ room ≤ 4) : Spec Try.prog GV 60 [SV.i room, SV.i k, SV.b true] [] (fun r ho => r = SV.tup [.sl 0 0 (fin (B_stepT room k)).length, SV.i 0] ∧ ho = [some (.rows 42 5 (fin (B_stepT room k)).length (insF (fin (B_stepT room k))))]) := by
  refine start 25 0 Try.func60 rfl rfl rfl rfl ?_
  refine r1 ?_
  refine s1 6 0 1 rfl rfl rfl rfl rfl rfl trivial ?_
  refine s1 7 8 2 rfl rfl rfl rfl rfl rfl trivial ?_
  refine e1 16 rfl ?_
  refine keep [0, 1, 2] rfl ?_
  refine W_seq ?_
  refine r1 ?_
  refine s1 9 16 1 rfl rfl rfl rfl rfl rfl trivial ?_
  refine c1 (may_any room) [] [] 10 24 2 rfl rfl rfl rfl rfl rfl rfl rfl Try.func59 rfl rfl rfl rfl trivial rfl rfl ?_
  refine s1 11 32 3 rfl rfl rfl rfl rfl rfl trivial ?_
  refine e1 40 rfl ?_
  refine keep [1, 2, 11] rfl ?_
  refine q1 rfl (fun hc1 => ?_) (fun hc1 => ?_)
  · skip
    exfalso; simp at hc1; omega
  · skip
    try simp only [decide_eq_true_eq, decide_eq_false_iff_not, Bool.not_eq_true', Bool.not_eq_false', beq_iff_eq, bne_iff_ne, beq_eq_false_iff_ne, Bool.and_eq_true, Bool.or_eq_true, Bool.and_eq_false_iff, Bool.or_eq_false_iff, ge_iff_le, gt_iff_lt, Int.not_lt, Int.not_le, ne_eq, Decidable.not_not, bne_eq_false_iff_eq] at hc1
    refine W_skip ?_
    refine tn ?_
    refine r1 ?_
    refine c1 (nil_any) [] [40, 41, 42, 43, 44] 12 40 1 rfl rfl rfl rfl rfl rfl rfl rfl Try.func45 rfl rfl rfl rfl trivial rfl rfl ?_
    have hb1 := ok_mk []
    refine c1 (set_any (mk []) st_one 1 hb1 (by decide)) [40, 41, 42, 43, 44] [40, 41, 42, 43, 44, 48] 13 48 2 rfl rfl rfl rfl rfl rfl rfl rfl Try.func46 rfl rfl rfl rfl ⟨rfl, rfl, rfl, rfl, rfl, trivial⟩ rfl rfl ?_
    have hb2 := ok_set st_one 1 hb1
    refine c1 (mark_any ((mk []).set st_one 1) st_again hb2 (by decide)) [40, 48, 42, 43, 44] [40, 48, 42, 43, 44] 14 56 3 rfl rfl rfl rfl rfl rfl rfl rfl Try.func53 rfl rfl rfl rfl ⟨rfl, rfl, rfl, rfl, rfl, trivial⟩ rfl rfl ?_
    have hb3 := ok_mark st_again hb2
    refine c1 (word_any (((mk []).set st_one 1).mark st_again) 13 st_now st_base 0 hb3 (by decide)) [40, 48, 42, 43, 44] [40, 48, 42, 43, 44, 64] 15 64 4 rfl rfl rfl rfl rfl rfl rfl rfl Try.func52 rfl rfl rfl rfl ⟨rfl, rfl, rfl, rfl, rfl, trivial⟩ rfl rfl ?_
    have hb4 := ok_word 13 st_now st_base 0 hb3
    refine s1 8 72 5 rfl rfl rfl rfl rfl rfl trivial ?_
    refine e1 80 rfl ?_
    refine keep [1, 2, 8] rfl ?_
    refine W_seq ?_
    refine r1 ?_
    refine s1 16 80 1 rfl rfl rfl rfl rfl rfl trivial ?_
    refine e1 88 rfl ?_
    refine keep [1, 8, 16] rfl ?_
    refine q1 rfl (fun hc4 => ?_) (fun hc4 => ?_)
    · skip
      try simp only [decide_eq_true_eq, decide_eq_false_iff_not, Bool.not_eq_true', Bool.not_eq_false', beq_iff_eq, bne_iff_ne, beq_eq_false_iff_ne, Bool.and_eq_true, Bool.or_eq_true, Bool.and_eq_false_iff, Bool.or_eq_false_iff, ge_iff_le, gt_iff_lt, Int.not_lt, Int.not_le, ne_eq, Decidable.not_not, bne_eq_false_iff_eq] at hc4
      refine r0 ?_
      refine s1 17 88 1 rfl rfl rfl rfl rfl rfl trivial ?_
      refine c1 (iff_any ((((mk []).set st_one 1).mark st_again).word 13 st_now st_base 0) 12 st_now st_again hb4 (by decide)) [40, 64, 42, 43, 44] [40, 64, 42, 43, 44, 96, 97] 18 96 2 rfl rfl rfl rfl rfl rfl rfl rfl Try.func55 rfl rfl rfl rfl ⟨rfl, rfl, rfl, rfl, rfl, trivial⟩ rfl rfl ?_
      have hb5 := ok_iff 12 st_now st_again hb4
      refine e1 104 rfl ?_
      refine tn ?_
      refine r1 ?_
      refine s1 19 104 1 rfl rfl rfl rfl rfl rfl trivial ?_
      refine s1 20 112 2 rfl rfl rfl rfl rfl rfl trivial ?_
      refine c1 (doo_any (((((mk []).set st_one 1).mark st_again).word 13 st_now st_base 0).iff 12 st_now st_again) k st_next st_now st_one hb5 (by decide)) [40, 97, 42, 96, 44] [40, 97, 42, 96, 44, 120] 21 120 3 rfl rfl rfl rfl rfl rfl rfl rfl Try.func54 rfl rfl rfl rfl ⟨rfl, rfl, rfl, rfl, rfl, trivial⟩ rfl rfl ?_
      have hb6 := ok_doo k st_next st_now st_one hb5
      refine c1 (cas_any ((((((mk []).set st_one 1).mark st_again).word 13 st_now st_base 0).iff 12 st_now st_again).doo k st_next st_now st_one) st_next st_base 0 st_now hb6 (by decide)) [40, 120, 42, 96, 44] [40, 120, 42, 96, 44, 128] 22 128 4 rfl rfl rfl rfl rfl rfl rfl rfl Try.func47 rfl rfl rfl rfl ⟨rfl, rfl, rfl, rfl, rfl, trivial⟩ rfl rfl ?_
      have hb7 := ok_cas st_next st_base 0 st_now hb6
      refine c1 (iff_any (((((((mk []).set st_one 1).mark st_again).word 13 st_now st_base 0).iff 12 st_now st_again).doo k st_next st_now st_one).cas st_next st_base 0 st_now) 12 st_next st_again hb7 (by decide)) [40, 128, 42, 96, 44] [40, 128, 42, 96, 44, 136, 137] 23 136 5 rfl rfl rfl rfl rfl rfl rfl rfl Try.func55 rfl rfl rfl rfl ⟨rfl, rfl, rfl, rfl, rfl, trivial⟩ rfl rfl ?_
      have hb8 := ok_iff 12 st_next st_again hb7
      refine c1 (ops_any ((((((((mk []).set st_one 1).mark st_again).word 13 st_now st_base 0).iff 12 st_now st_again).doo k st_next st_now st_one).cas st_next st_base 0 st_now).iff 12 st_next st_again) hb8 (by decide)) [40, 137, 42, 136, 44] [40, 137, 42, 136, 44] 24 144 6 rfl rfl rfl rfl rfl rfl rfl rfl Try.func49 rfl rfl rfl rfl ⟨rfl, rfl, rfl, rfl, rfl, trivial⟩ rfl rfl ?_
      refine s1 6 152 7 rfl rfl rfl rfl rfl rfl trivial ?_
      refine s1 7 160 8 rfl rfl rfl rfl rfl rfl trivial ?_
      refine e1 168 rfl ?_
      refine keep [6, 7] rfl ?_
      refine W_ret ?_
      exact out2 6 7 (.sl 0 0 (fin (B_stepT room k)).length) (SV.i 0) (π := [137]) (hout := [some (.rows 42 5 (fin (B_stepT room k)).length (insF (fin (B_stepT room k))))]) Try.results60 rfl rfl rfl rfl rfl rfl ⟨rfl, trivial⟩ ⟨rfl, rfl⟩
    · skip
      exact absurd hc4 (by decide)

theorem no_stepF (room k : Int) (hr : ¬ (1 ≤ room ∧ room ≤ 4)) : Spec Try.prog GV 60 [SV.i room, SV.i k, SV.b false] [] (fun r ho => r = SV.tup [.d .nils, SV.i 2] ∧ ho = []) := by
  refine start 25 0 Try.func60 rfl rfl rfl rfl ?_
  refine r1 ?_
  refine s1 6 0 1 rfl rfl rfl rfl rfl rfl trivial ?_
  refine s1 7 8 2 rfl rfl rfl rfl rfl rfl trivial ?_
  refine e1 16 rfl ?_
  refine keep [0, 1, 2] rfl ?_
  refine W_seq ?_
  refine r1 ?_
  refine s1 9 16 1 rfl rfl rfl rfl rfl rfl trivial ?_
  refine c1 (may_any room) [] [] 10 24 2 rfl rfl rfl rfl rfl rfl rfl rfl Try.func59 rfl rfl rfl rfl trivial rfl rfl ?_
  refine s1 11 32 3 rfl rfl rfl rfl rfl rfl trivial ?_
  refine e1 40 rfl ?_
  refine keep [1, 2, 11] rfl ?_
  refine q1 rfl (fun hc1 => ?_) (fun hc1 => ?_)
  · skip
    try simp only [decide_eq_true_eq, decide_eq_false_iff_not, Bool.not_eq_true', Bool.not_eq_false', beq_iff_eq, bne_iff_ne, beq_eq_false_iff_ne, Bool.and_eq_true, Bool.or_eq_true, Bool.and_eq_false_iff, Bool.or_eq_false_iff, ge_iff_le, gt_iff_lt, Int.not_lt, Int.not_le, ne_eq, Decidable.not_not, bne_eq_false_iff_eq] at hc1
    refine r1 ?_
    refine s1 6 40 1 rfl rfl rfl rfl rfl rfl trivial ?_
    refine s1 7 48 2 rfl rfl rfl rfl rfl rfl trivial ?_
    refine e1 56 rfl ?_
    refine keep [6, 7] rfl ?_
    refine W_ret ?_
    refine tr ?_
    exact out2 6 7 (.d .nils) (SV.i 2) (π := []) (hout := []) Try.results60 rfl rfl rfl rfl rfl rfl trivial ⟨rfl, rfl⟩
  · skip
    exfalso; simp at hc1; omega

def B_stepF (room k : Int) : Bld := (((((((mk []).set st_one 1).mark st_again).word 13 st_now st_base 0).doo k st_next st_now st_one).cas st_next st_base 0 st_now).iff 12 st_next st_again)
theorem yes_stepF (room k : Int) (hr : 1 ≤ room ∧ room ≤ 4) : Spec Try.prog GV 60 [SV.i room, SV.i k, SV.b false] [] (fun r ho => r = SV.tup [.sl 0 0 (fin (B_stepF room k)).length, SV.i 0] ∧ ho = [some (.rows 42 5 (fin (B_stepF room k)).length (insF (fin (B_stepF room k))))]) := by
  refine start 25 0 Try.func60 rfl rfl rfl rfl ?_
  refine r1 ?_
  refine s1 6 0 1 rfl rfl rfl rfl rfl rfl trivial ?_
  refine s1 7 8 2 rfl rfl rfl rfl rfl rfl trivial ?_
  refine e1 16 rfl ?_
  refine keep [0, 1, 2] rfl ?_
  refine W_seq ?_
  refine r1 ?_
  refine s1 9 16 1 rfl rfl rfl rfl rfl rfl trivial ?_
  refine c1 (may_any room) [] [] 10 24 2 rfl rfl rfl rfl rfl rfl rfl rfl Try.func59 rfl rfl rfl rfl trivial rfl rfl ?_
  refine s1 11 32 3 rfl rfl rfl rfl rfl rfl trivial ?_
  refine e1 40 rfl ?_
  refine keep [1, 2, 11] rfl ?_
  refine q1 rfl (fun hc1 => ?_) (fun hc1 => ?_)
  · skip
    exfalso; simp at hc1; omega
  · skip
    try simp only [decide_eq_true_eq, decide_eq_false_iff_not, Bool.not_eq_true', Bool.not_eq_false', beq_iff_eq, bne_iff_ne, beq_eq_false_iff_ne, Bool.and_eq_true, Bool.or_eq_true, Bool.and_eq_false_iff, Bool.or_eq_false_iff, ge_iff_le, gt_iff_lt, Int.not_lt, Int.not_le, ne_eq, Decidable.not_not, bne_eq_false_iff_eq] at hc1
    refine W_skip ?_
    refine tn ?_
    refine r1 ?_
    refine c1 (nil_any) [] [40, 41, 42, 43, 44] 12 40 1 rfl rfl rfl rfl rfl rfl rfl rfl Try.func45 rfl rfl rfl rfl trivial rfl rfl ?_
    have hb1 := ok_mk []
    refine c1 (set_any (mk []) st_one 1 hb1 (by decide)) [40, 41, 42, 43, 44] [40, 41, 42, 43, 44, 48] 13 48 2 rfl rfl rfl rfl rfl rfl rfl rfl Try.func46 rfl rfl rfl rfl ⟨rfl, rfl, rfl, rfl, rfl, trivial⟩ rfl rfl ?_
    have hb2 := ok_set st_one 1 hb1
    refine c1 (mark_any ((mk []).set st_one 1) st_again hb2 (by decide)) [40, 48, 42, 43, 44] [40, 48, 42, 43, 44] 14 56 3 rfl rfl rfl rfl rfl rfl rfl rfl Try.func53 rfl rfl rfl rfl ⟨rfl, rfl, rfl, rfl, rfl, trivial⟩ rfl rfl ?_
    have hb3 := ok_mark st_again hb2
    refine c1 (word_any (((mk []).set st_one 1).mark st_again) 13 st_now st_base 0 hb3 (by decide)) [40, 48, 42, 43, 44] [40, 48, 42, 43, 44, 64] 15 64 4 rfl rfl rfl rfl rfl rfl rfl rfl Try.func52 rfl rfl rfl rfl ⟨rfl, rfl, rfl, rfl, rfl, trivial⟩ rfl rfl ?_
    have hb4 := ok_word 13 st_now st_base 0 hb3
    refine s1 8 72 5 rfl rfl rfl rfl rfl rfl trivial ?_
    refine e1 80 rfl ?_
    refine keep [1, 2, 8] rfl ?_
    refine W_seq ?_
    refine r1 ?_
    refine s1 16 80 1 rfl rfl rfl rfl rfl rfl trivial ?_
    refine e1 88 rfl ?_
    refine keep [1, 8, 16] rfl ?_
    refine q1 rfl (fun hc4 => ?_) (fun hc4 => ?_)
    · skip
      exact absurd hc4 (by decide)
    · skip
      try simp only [decide_eq_true_eq, decide_eq_false_iff_not, Bool.not_eq_true', Bool.not_eq_false', beq_iff_eq, bne_iff_ne, beq_eq_false_iff_ne, Bool.and_eq_true, Bool.or_eq_true, Bool.and_eq_false_iff, Bool.or_eq_false_iff, ge_iff_le, gt_iff_lt, Int.not_lt, Int.not_le, ne_eq, Decidable.not_not, bne_eq_false_iff_eq] at hc4
      refine W_skip ?_
      refine tn ?_
      refine r1 ?_
      refine s1 19 88 1 rfl rfl rfl rfl rfl rfl trivial ?_
      refine s1 20 96 2 rfl rfl rfl rfl rfl rfl trivial ?_
      refine c1 (doo_any ((((mk []).set st_one 1).mark st_again).word 13 st_now st_base 0) k st_next st_now st_one hb4 (by decide)) [40, 64, 42, 43, 44] [40, 64, 42, 43, 44, 104] 21 104 3 rfl rfl rfl rfl rfl rfl rfl rfl Try.func54 rfl rfl rfl rfl ⟨rfl, rfl, rfl, rfl, rfl, trivial⟩ rfl rfl ?_
      have hb5 := ok_doo k st_next st_now st_one hb4
      refine c1 (cas_any (((((mk []).set st_one 1).mark st_again).word 13 st_now st_base 0).doo k st_next st_now st_one) st_next st_base 0 st_now hb5 (by decide)) [40, 104, 42, 43, 44] [40, 104, 42, 43, 44, 112] 22 112 4 rfl rfl rfl rfl rfl rfl rfl rfl Try.func47 rfl rfl rfl rfl ⟨rfl, rfl, rfl, rfl, rfl, trivial⟩ rfl rfl ?_
      have hb6 := ok_cas st_next st_base 0 st_now hb5
      refine c1 (iff_any ((((((mk []).set st_one 1).mark st_again).word 13 st_now st_base 0).doo k st_next st_now st_one).cas st_next st_base 0 st_now) 12 st_next st_again hb6 (by decide)) [40, 112, 42, 43, 44] [40, 112, 42, 43, 44, 120, 121] 23 120 5 rfl rfl rfl rfl rfl rfl rfl rfl Try.func55 rfl rfl rfl rfl ⟨rfl, rfl, rfl, rfl, rfl, trivial⟩ rfl rfl ?_
      have hb7 := ok_iff 12 st_next st_again hb6
      refine c1 (ops_any (((((((mk []).set st_one 1).mark st_again).word 13 st_now st_base 0).doo k st_next st_now st_one).cas st_next st_base 0 st_now).iff 12 st_next st_again) hb7 (by decide)) [40, 121, 42, 120, 44] [40, 121, 42, 120, 44] 24 128 6 rfl rfl rfl rfl rfl rfl rfl rfl Try.func49 rfl rfl rfl rfl ⟨rfl, rfl, rfl, rfl, rfl, trivial⟩ rfl rfl ?_
      refine s1 6 136 7 rfl rfl rfl rfl rfl rfl trivial ?_
      refine s1 7 144 8 rfl rfl rfl rfl rfl rfl trivial ?_
      refine e1 152 rfl ?_
      refine keep [6, 7] rfl ?_
      refine W_ret ?_
      exact out2 6 7 (.sl 0 0 (fin (B_stepF room k)).length) (SV.i 0) (π := [121]) (hout := [some (.rows 42 5 (fin (B_stepF room k)).length (insF (fin (B_stepF room k))))]) Try.results60 rfl rfl rfl rfl rfl rfl ⟨rfl, trivial⟩ ⟨rfl, rfl⟩

theorem no_Enter (room : Int) (hr : ¬ (1 ≤ room ∧ room ≤ 4)) : Spec Try.prog GV 29 [SV.i room] [] (fun r ho => r = SV.tup [.d .nils, SV.i 2] ∧ ho = []) := by
  refine start 8 0 Try.func29 rfl rfl rfl rfl ?_
  refine r1 ?_
  refine s1 2 0 1 rfl rfl rfl rfl rfl rfl trivial ?_
  refine s1 3 8 2 rfl rfl rfl rfl rfl rfl trivial ?_
  refine e1 16 rfl ?_
  refine keep [0] rfl ?_
  refine r1 ?_
  refine s1 4 16 1 rfl rfl rfl rfl rfl rfl trivial ?_
  refine c1 (no_stepT room 4 hr) [] [] 5 24 2 rfl rfl rfl rfl rfl rfl rfl rfl Try.func60 rfl rfl rfl rfl trivial rfl rfl ?_
  refine s1 6 32 3 rfl rfl rfl rfl rfl rfl trivial ?_
  refine s1 7 40 4 rfl rfl rfl rfl rfl rfl trivial ?_
  refine s1 2 48 5 rfl rfl rfl rfl rfl rfl trivial ?_
  refine s1 3 56 6 rfl rfl rfl rfl rfl rfl trivial ?_
  refine e1 64 rfl ?_
  refine keep [2, 3] rfl ?_
  refine W_ret ?_
  exact out2 2 3 (.d .nils) (SV.i 2) (π := []) (hout := []) Try.results29 rfl rfl rfl rfl rfl rfl trivial ⟨rfl, rfl⟩

theorem no_Leave (room : Int) (hr : ¬ (1 ≤ room ∧ room ≤ 4)) : Spec Try.prog GV 30 [SV.i room] [] (fun r ho => r = SV.tup [.d .nils, SV.i 2] ∧ ho = []) := by
  refine start 8 0 Try.func30 rfl rfl rfl rfl ?_
  refine r1 ?_
  refine s1 2 0 1 rfl rfl rfl rfl rfl rfl trivial ?_
  refine s1 3 8 2 rfl rfl rfl rfl rfl rfl trivial ?_
  refine e1 16 rfl ?_
  refine keep [0] rfl ?_
  refine r1 ?_
  refine s1 4 16 1 rfl rfl rfl rfl rfl rfl trivial ?_
  refine c1 (no_stepF room 3 hr) [] [] 5 24 2 rfl rfl rfl rfl rfl rfl rfl rfl Try.func60 rfl rfl rfl rfl trivial rfl rfl ?_
  refine s1 6 32 3 rfl rfl rfl rfl rfl rfl trivial ?_
  refine s1 7 40 4 rfl rfl rfl rfl rfl rfl trivial ?_
  refine s1 2 48 5 rfl rfl rfl rfl rfl rfl trivial ?_
  refine s1 3 56 6 rfl rfl rfl rfl rfl rfl trivial ?_
  refine e1 64 rfl ?_
  refine keep [2, 3] rfl ?_
  refine W_ret ?_
  exact out2 2 3 (.d .nils) (SV.i 2) (π := []) (hout := []) Try.results30 rfl rfl rfl rfl rfl rfl trivial ⟨rfl, rfl⟩

def B_Enter (room : Int) : Bld := (B_stepT room 4)
theorem yes_Enter (room : Int) (hr : 1 ≤ room ∧ room ≤ 4) : Spec Try.prog GV 29 [SV.i room] [] (fun r ho => r = SV.tup [.sl 0 0 (fin (B_Enter room)).length, SV.i 0] ∧ ho = [some (.rows 42 5 (fin (B_Enter room)).length (insF (fin (B_Enter room))))]) := by
  refine start 8 0 Try.func29 rfl rfl rfl rfl ?_
  refine r1 ?_
  refine s1 2 0 1 rfl rfl rfl rfl rfl rfl trivial ?_
  refine s1 3 8 2 rfl rfl rfl rfl rfl rfl trivial ?_
  refine e1 16 rfl ?_
  refine keep [0] rfl ?_
  refine r1 ?_
  refine s1 4 16 1 rfl rfl rfl rfl rfl rfl trivial ?_
  refine c1 (yes_stepT room 4 hr) [] [24] 5 24 2 rfl rfl rfl rfl rfl rfl rfl rfl Try.func60 rfl rfl rfl rfl trivial rfl rfl ?_
  refine s1 6 32 3 rfl rfl rfl rfl rfl rfl trivial ?_
  refine s1 7 40 4 rfl rfl rfl rfl rfl rfl trivial ?_
  refine s1 2 48 5 rfl rfl rfl rfl rfl rfl trivial ?_
  refine s1 3 56 6 rfl rfl rfl rfl rfl rfl trivial ?_
  refine e1 64 rfl ?_
  refine keep [2, 3] rfl ?_
  refine W_ret ?_
  exact out2 2 3 (.sl 0 0 (fin (B_Enter room)).length) (SV.i 0) (π := [24]) (hout := [some (.rows 42 5 (fin (B_Enter room)).length (insF (fin (B_Enter room))))]) Try.results29 rfl rfl rfl rfl rfl rfl ⟨rfl, trivial⟩ ⟨rfl, rfl⟩

theorem ok_Enter {room : Int} (h : 1 ≤ room ∧ room ≤ 4) : mayB (fin (B_Enter room)) = true ∧ 0 < (fin (B_Enter room)).length ∧ (fin (B_Enter room)).length ≤ 1000 := by
  obtain rfl | rfl | rfl | rfl : room = 1 ∨ room = 2 ∨ room = 3 ∨ room = 4 := (by omega)
  all_goals decide +kernel

def B_Leave (room : Int) : Bld := (B_stepF room 3)
theorem yes_Leave (room : Int) (hr : 1 ≤ room ∧ room ≤ 4) : Spec Try.prog GV 30 [SV.i room] [] (fun r ho => r = SV.tup [.sl 0 0 (fin (B_Leave room)).length, SV.i 0] ∧ ho = [some (.rows 42 5 (fin (B_Leave room)).length (insF (fin (B_Leave room))))]) := by
  refine start 8 0 Try.func30 rfl rfl rfl rfl ?_
  refine r1 ?_
  refine s1 2 0 1 rfl rfl rfl rfl rfl rfl trivial ?_
  refine s1 3 8 2 rfl rfl rfl rfl rfl rfl trivial ?_
  refine e1 16 rfl ?_
  refine keep [0] rfl ?_
  refine r1 ?_
  refine s1 4 16 1 rfl rfl rfl rfl rfl rfl trivial ?_
  refine c1 (yes_stepF room 3 hr) [] [24] 5 24 2 rfl rfl rfl rfl rfl rfl rfl rfl Try.func60 rfl rfl rfl rfl trivial rfl rfl ?_
  refine s1 6 32 3 rfl rfl rfl rfl rfl rfl trivial ?_
  refine s1 7 40 4 rfl rfl rfl rfl rfl rfl trivial ?_
  refine s1 2 48 5 rfl rfl rfl rfl rfl rfl trivial ?_
  refine s1 3 56 6 rfl rfl rfl rfl rfl rfl trivial ?_
  refine e1 64 rfl ?_
  refine keep [2, 3] rfl ?_
  refine W_ret ?_
  exact out2 2 3 (.sl 0 0 (fin (B_Leave room)).length) (SV.i 0) (π := [24]) (hout := [some (.rows 42 5 (fin (B_Leave room)).length (insF (fin (B_Leave room))))]) Try.results30 rfl rfl rfl rfl rfl rfl ⟨rfl, trivial⟩ ⟨rfl, rfl⟩

theorem ok_Leave {room : Int} (h : 1 ≤ room ∧ room ≤ 4) : mayB (fin (B_Leave room)) = true ∧ 0 < (fin (B_Leave room)).length ∧ (fin (B_Leave room)).length ≤ 1000 := by
  obtain rfl | rfl | rfl | rfl : room = 1 ∨ room = 2 ∨ room = 3 ∨ room = 4 := (by omega)
  all_goals decide +kernel

theorem law_yes (room : Int) (hr : 1 ≤ room ∧ room ≤ 4) : Spec Try.prog GV 8 [SV.i room] [] (fun r _ => r = SV.b true) := by
  refine start 93 0 Try.func8 rfl rfl rfl rfl ?_
  refine r1 ?_
  refine s1 2 0 1 rfl rfl rfl rfl rfl rfl trivial ?_
  refine e1 8 rfl ?_
  refine keep [0] rfl ?_
  refine r1 ?_
  refine s1 10 8 1 rfl rfl rfl rfl rfl rfl trivial ?_
  refine c1 (yes_Words room hr) [] [16] 11 16 2 rfl rfl rfl rfl rfl rfl rfl rfl Try.func28 rfl rfl rfl rfl trivial rfl rfl ?_
  refine s1 9 24 3 rfl rfl rfl rfl rfl rfl trivial ?_
  refine s1 12 32 4 rfl rfl rfl rfl rfl rfl trivial ?_
  refine s1 13 40 5 rfl rfl rfl rfl rfl rfl trivial ?_
  refine s1 3 48 6 rfl rfl rfl rfl rfl rfl trivial ?_
  refine s1 4 56 7 rfl rfl rfl rfl rfl rfl trivial ?_
  refine e1 64 rfl ?_
  refine keep [0, 3, 4] rfl ?_
  refine r1 ?_
  refine s1 15 64 1 rfl rfl rfl rfl rfl rfl trivial ?_
  refine c1 (yes_Enter room hr) [] [72] 16 72 2 rfl rfl rfl rfl rfl rfl rfl rfl Try.func29 rfl rfl rfl rfl trivial rfl rfl ?_
  refine s1 14 80 3 rfl rfl rfl rfl rfl rfl trivial ?_
  refine s1 17 88 4 rfl rfl rfl rfl rfl rfl trivial ?_
  refine s1 18 96 5 rfl rfl rfl rfl rfl rfl trivial ?_
  refine s1 5 104 6 rfl rfl rfl rfl rfl rfl trivial ?_
  refine s1 6 112 7 rfl rfl rfl rfl rfl rfl trivial ?_
  refine e1 120 rfl ?_
  refine keep [0, 3, 4, 5, 6] rfl ?_
  refine r1 ?_
  refine s1 20 120 1 rfl rfl rfl rfl rfl rfl trivial ?_
  refine c1 (yes_Leave room hr) [] [128] 21 128 2 rfl rfl rfl rfl rfl rfl rfl rfl Try.func30 rfl rfl rfl rfl trivial rfl rfl ?_
  refine s1 19 136 3 rfl rfl rfl rfl rfl rfl trivial ?_
  refine s1 22 144 4 rfl rfl rfl rfl rfl rfl trivial ?_
  refine s1 23 152 5 rfl rfl rfl rfl rfl rfl trivial ?_
  refine s1 7 160 6 rfl rfl rfl rfl rfl rfl trivial ?_
  refine s1 8 168 7 rfl rfl rfl rfl rfl rfl trivial ?_
  refine e1 176 rfl ?_
  refine keep [0, 3, 4, 5, 6, 7, 8] rfl ?_
  refine W_seq ?_
  refine r1 ?_
  refine s1 24 176 1 rfl rfl rfl rfl rfl rfl trivial ?_
  refine s1 25 184 2 rfl rfl rfl rfl rfl rfl (by first | trivial | omega | (simp only [List.length_map, List.length_append, List.length_cons, List.length_nil] at *; omega)) ?_
  refine s1 26 192 3 rfl rfl rfl rfl rfl rfl trivial ?_
  refine ask 26 rfl (fun hg4_26 => ?_) (fun hg4_26 => ?_)
  · skip
    try simp only [decide_eq_true_eq, decide_eq_false_iff_not, Bool.not_eq_true', Bool.not_eq_false', beq_iff_eq, bne_iff_ne, beq_eq_false_iff_ne, Bool.and_eq_true, Bool.or_eq_true, Bool.and_eq_false_iff, Bool.or_eq_false_iff, ge_iff_le, gt_iff_lt, Int.not_lt, Int.not_le, ne_eq, Decidable.not_not, bne_eq_false_iff_eq] at hg4_26
    refine g0 2 false 26 27 4 rfl rfl rfl rfl rfl rfl ?_
    refine g0 2 false 26 28 5 rfl rfl rfl rfl rfl rfl ?_
    refine s1 29 216 6 rfl rfl rfl rfl rfl rfl trivial ?_
    refine e1 224 rfl ?_
    refine keep [3, 4, 5, 6, 7, 8, 29] rfl ?_
    refine q1 rfl (fun hc4 => ?_) (fun hc4 => ?_)
    · skip
      exfalso; simp at hc4; omega
    · skip
      exact absurd hc4 (by decide)
  · skip
    try simp only [decide_eq_true_eq, decide_eq_false_iff_not, Bool.not_eq_true', Bool.not_eq_false', beq_iff_eq, bne_iff_ne, beq_eq_false_iff_ne, Bool.and_eq_true, Bool.or_eq_true, Bool.and_eq_false_iff, Bool.or_eq_false_iff, ge_iff_le, gt_iff_lt, Int.not_lt, Int.not_le, ne_eq, Decidable.not_not, bne_eq_false_iff_eq] at hg4_26
    refine g1 2 false 26 27 4 rfl rfl rfl rfl rfl ?_
    refine s1 27 200 4 rfl rfl rfl rfl rfl rfl trivial ?_
    refine g1 2 false 26 28 5 rfl rfl rfl rfl rfl ?_
    refine s1 28 208 5 rfl rfl rfl rfl rfl rfl (by first | trivial | omega | (simp only [List.length_map, List.length_append, List.length_cons, List.length_nil] at *; omega)) ?_
    refine s1 29 216 6 rfl rfl rfl rfl rfl rfl trivial ?_
    refine e1 224 rfl ?_
    refine keep [3, 4, 5, 6, 7, 8, 29] rfl ?_
    refine q1 rfl (fun hc4 => ?_) (fun hc4 => ?_)
    · skip
      exfalso; simp at hc4; omega
    · skip
      try simp only [decide_eq_true_eq, decide_eq_false_iff_not, Bool.not_eq_true', Bool.not_eq_false', beq_iff_eq, bne_iff_ne, beq_eq_false_iff_ne, Bool.and_eq_true, Bool.or_eq_true, Bool.and_eq_false_iff, Bool.or_eq_false_iff, ge_iff_le, gt_iff_lt, Int.not_lt, Int.not_le, ne_eq, Decidable.not_not, bne_eq_false_iff_eq] at hc4
      refine W_skip ?_
      refine tn ?_
      refine freeze 5 72 (fin (B_Enter room)).length rfl rfl (Nat.le_refl _) ?_
      refine freeze 7 128 (fin (B_Leave room)).length rfl rfl (Nat.le_refl _) ?_
      have ho0 := ok_Enter hr
      have ho1 := ok_Leave hr
      refine r1 ?_
      refine s1 55 224 1 rfl rfl rfl rfl rfl rfl trivial ?_
      refine s1 56 232 2 rfl rfl rfl rfl rfl rfl (by first | trivial | omega | (simp only [List.length_map, List.length_append, List.length_cons, List.length_nil] at *; omega)) ?_
      refine s1 57 240 3 rfl rfl rfl rfl rfl rfl trivial ?_
      refine ask 57 rfl (fun hg6_57 => ?_) (fun hg6_57 => ?_)
      · skip
        try simp only [decide_eq_true_eq, decide_eq_false_iff_not, Bool.not_eq_true', Bool.not_eq_false', beq_iff_eq, bne_iff_ne, beq_eq_false_iff_ne, Bool.and_eq_true, Bool.or_eq_true, Bool.and_eq_false_iff, Bool.or_eq_false_iff, ge_iff_le, gt_iff_lt, Int.not_lt, Int.not_le, ne_eq, Decidable.not_not, bne_eq_false_iff_eq] at hg6_57
        refine g1 2 true 57 58 4 rfl rfl rfl rfl rfl ?_
        refine s1 58 248 4 rfl rfl rfl rfl rfl rfl trivial ?_
        refine g1 2 true 57 59 5 rfl rfl rfl rfl rfl ?_
        refine s1 59 256 5 rfl rfl rfl rfl rfl rfl (by first | trivial | omega | (simp only [List.length_map, List.length_append, List.length_cons, List.length_nil] at *; omega)) ?_
        refine s1 60 264 6 rfl rfl rfl rfl rfl rfl trivial ?_
        refine s1 61 272 7 rfl rfl rfl rfl rfl rfl trivial ?_
        refine ask 61 rfl (fun hg6_61 => ?_) (fun hg6_61 => ?_)
        · skip
          try simp only [decide_eq_true_eq, decide_eq_false_iff_not, Bool.not_eq_true', Bool.not_eq_false', beq_iff_eq, bne_iff_ne, beq_eq_false_iff_ne, Bool.and_eq_true, Bool.or_eq_true, Bool.and_eq_false_iff, Bool.or_eq_false_iff, ge_iff_le, gt_iff_lt, Int.not_lt, Int.not_le, ne_eq, Decidable.not_not, bne_eq_false_iff_eq] at hg6_61
          refine g1 6 true 61 62 8 rfl rfl rfl rfl rfl ?_
          refine s1 62 280 8 rfl rfl rfl rfl rfl rfl trivial ?_
          refine g1 6 true 61 63 9 rfl rfl rfl rfl rfl ?_
          refine s1 63 288 9 rfl rfl rfl rfl rfl rfl (by first | trivial | omega | (simp only [List.length_map, List.length_append, List.length_cons, List.length_nil] at *; omega)) ?_
          refine s1 64 296 10 rfl rfl rfl rfl rfl rfl trivial ?_
          refine s1 65 304 11 rfl rfl rfl rfl rfl rfl trivial ?_
          refine ask 65 rfl (fun hg6_65 => ?_) (fun hg6_65 => ?_)
          · skip
            try simp only [decide_eq_true_eq, decide_eq_false_iff_not, Bool.not_eq_true', Bool.not_eq_false', beq_iff_eq, bne_iff_ne, beq_eq_false_iff_ne, Bool.and_eq_true, Bool.or_eq_true, Bool.and_eq_false_iff, Bool.or_eq_false_iff, ge_iff_le, gt_iff_lt, Int.not_lt, Int.not_le, ne_eq, Decidable.not_not, bne_eq_false_iff_eq] at hg6_65
            refine g1 10 true 65 66 12 rfl rfl rfl rfl rfl ?_
            refine s1 66 312 12 rfl rfl rfl rfl rfl rfl trivial ?_
            refine g1 10 true 65 67 13 rfl rfl rfl rfl rfl ?_
            refine s1 67 320 13 rfl rfl rfl rfl rfl rfl (by first | trivial | omega | (simp only [List.length_map, List.length_append, List.length_cons, List.length_nil] at *; omega)) ?_
            refine g1 10 true 65 68 14 rfl rfl rfl rfl rfl ?_
            refine s1 68 328 14 rfl rfl rfl rfl rfl rfl (by first | trivial | omega | (simp only [List.length_map, List.length_append, List.length_cons, List.length_nil] at *; omega)) ?_
            refine s1 69 336 15 rfl rfl rfl rfl rfl rfl trivial ?_
            refine s1 70 344 16 rfl rfl rfl rfl rfl rfl trivial ?_
            refine ask 70 rfl (fun hg6_70 => ?_) (fun hg6_70 => ?_)
            · skip
              try simp only [decide_eq_true_eq, decide_eq_false_iff_not, Bool.not_eq_true', Bool.not_eq_false', beq_iff_eq, bne_iff_ne, beq_eq_false_iff_ne, Bool.and_eq_true, Bool.or_eq_true, Bool.and_eq_false_iff, Bool.or_eq_false_iff, ge_iff_le, gt_iff_lt, Int.not_lt, Int.not_le, ne_eq, Decidable.not_not, bne_eq_false_iff_eq] at hg6_70
              refine g1 15 true 70 71 17 rfl rfl rfl rfl rfl ?_
              refine s1 71 352 17 rfl rfl rfl rfl rfl rfl trivial ?_
              refine g1 15 true 70 72 18 rfl rfl rfl rfl rfl ?_
              refine s1 72 360 18 rfl rfl rfl rfl rfl rfl (by first | trivial | omega | (simp only [List.length_map, List.length_append, List.length_cons, List.length_nil] at *; omega)) ?_
              refine g1 15 true 70 73 19 rfl rfl rfl rfl rfl ?_
              refine s1 73 368 19 rfl rfl rfl rfl rfl rfl (by first | trivial | omega | (simp only [List.length_map, List.length_append, List.length_cons, List.length_nil] at *; omega)) ?_
              refine s1 74 376 20 rfl rfl rfl rfl rfl rfl trivial ?_
              refine s1 75 384 21 rfl rfl rfl rfl rfl rfl trivial ?_
              refine ask 75 rfl (fun hg6_75 => ?_) (fun hg6_75 => ?_)
              · skip
                try simp only [decide_eq_true_eq, decide_eq_false_iff_not, Bool.not_eq_true', Bool.not_eq_false', beq_iff_eq, bne_iff_ne, beq_eq_false_iff_ne, Bool.and_eq_true, Bool.or_eq_true, Bool.and_eq_false_iff, Bool.or_eq_false_iff, ge_iff_le, gt_iff_lt, Int.not_lt, Int.not_le, ne_eq, Decidable.not_not, bne_eq_false_iff_eq] at hg6_75
                refine g1 20 true 75 76 22 rfl rfl rfl rfl rfl ?_
                refine s1 76 392 22 rfl rfl rfl rfl rfl rfl trivial ?_
                refine g1 20 true 75 77 23 rfl rfl rfl rfl rfl ?_
                refine s1 77 400 23 rfl rfl rfl rfl rfl rfl (by first | trivial | omega | (simp only [List.length_map, List.length_append, List.length_cons, List.length_nil] at *; omega)) ?_
                refine g1 20 true 75 78 24 rfl rfl rfl rfl rfl ?_
                refine s1 78 408 24 rfl rfl rfl rfl rfl rfl (by first | trivial | omega | (simp only [List.length_map, List.length_append, List.length_cons, List.length_nil] at *; omega)) ?_
                refine s1 79 416 25 rfl rfl rfl rfl rfl rfl trivial ?_
                refine s1 80 424 26 rfl rfl rfl rfl rfl rfl trivial ?_
                refine ask 80 rfl (fun hg6_80 => ?_) (fun hg6_80 => ?_)
                · skip
                  try simp only [decide_eq_true_eq, decide_eq_false_iff_not, Bool.not_eq_true', Bool.not_eq_false', beq_iff_eq, bne_iff_ne, beq_eq_false_iff_ne, Bool.and_eq_true, Bool.or_eq_true, Bool.and_eq_false_iff, Bool.or_eq_false_iff, ge_iff_le, gt_iff_lt, Int.not_lt, Int.not_le, ne_eq, Decidable.not_not, bne_eq_false_iff_eq] at hg6_80
                  refine g1 25 true 80 81 27 rfl rfl rfl rfl rfl ?_
                  refine s1 81 432 27 rfl rfl rfl rfl rfl rfl trivial ?_
                  refine g1 25 true 80 82 28 rfl rfl rfl rfl rfl ?_
                  refine s1 82 440 28 rfl rfl rfl rfl rfl rfl (by first | trivial | omega | (simp only [List.length_map, List.length_append, List.length_cons, List.length_nil] at *; omega)) ?_
                  refine g1 25 true 80 83 29 rfl rfl rfl rfl rfl ?_
                  refine s1 83 448 29 rfl rfl rfl rfl rfl rfl (by first | trivial | omega | (simp only [List.length_map, List.length_append, List.length_cons, List.length_nil] at *; omega)) ?_
                  refine s1 84 456 30 rfl rfl rfl rfl rfl rfl trivial ?_
                  refine s1 85 464 31 rfl rfl rfl rfl rfl rfl trivial ?_
                  refine ask 85 rfl (fun hg6_85 => ?_) (fun hg6_85 => ?_)
                  · skip
                    try simp only [decide_eq_true_eq, decide_eq_false_iff_not, Bool.not_eq_true', Bool.not_eq_false', beq_iff_eq, bne_iff_ne, beq_eq_false_iff_ne, Bool.and_eq_true, Bool.or_eq_true, Bool.and_eq_false_iff, Bool.or_eq_false_iff, ge_iff_le, gt_iff_lt, Int.not_lt, Int.not_le, ne_eq, Decidable.not_not, bne_eq_false_iff_eq] at hg6_85
                    refine g1 30 true 85 86 32 rfl rfl rfl rfl rfl ?_
                    refine s1 86 472 32 rfl rfl rfl rfl rfl rfl trivial ?_
                    refine g1 30 true 85 87 33 rfl rfl rfl rfl rfl ?_
                    refine c1 (codeMay_any (fin (B_Enter room)) (Nat.le_trans (ok_Enter hr).2.2 (by decide))) [] [] 87 480 33 rfl rfl rfl rfl rfl rfl rfl rfl Try.func15 rfl rfl rfl rfl trivial rfl rfl ?_
                    refine val 87 (SV.b true) rfl (by rw [(ok_Enter hr).1]) ?_
                    refine s1 88 488 34 rfl rfl rfl rfl rfl rfl trivial ?_
                    refine s1 89 496 35 rfl rfl rfl rfl rfl rfl trivial ?_
                    refine ask 89 rfl (fun hg6_89 => ?_) (fun hg6_89 => ?_)
                    · skip
                      try simp only [decide_eq_true_eq, decide_eq_false_iff_not, Bool.not_eq_true', Bool.not_eq_false', beq_iff_eq, bne_iff_ne, beq_eq_false_iff_ne, Bool.and_eq_true, Bool.or_eq_true, Bool.and_eq_false_iff, Bool.or_eq_false_iff, ge_iff_le, gt_iff_lt, Int.not_lt, Int.not_le, ne_eq, Decidable.not_not, bne_eq_false_iff_eq] at hg6_89
                      refine g1 34 true 89 90 36 rfl rfl rfl rfl rfl ?_
                      refine s1 90 504 36 rfl rfl rfl rfl rfl rfl trivial ?_
                      refine g1 34 true 89 91 37 rfl rfl rfl rfl rfl ?_
                      refine c1 (codeMay_any (fin (B_Leave room)) (Nat.le_trans (ok_Leave hr).2.2 (by decide))) [] [] 91 512 37 rfl rfl rfl rfl rfl rfl rfl rfl Try.func15 rfl rfl rfl rfl trivial rfl rfl ?_
                      refine val 91 (SV.b true) rfl (by rw [(ok_Leave hr).1]) ?_
                      refine s1 92 520 38 rfl rfl rfl rfl rfl rfl trivial ?_
                      refine s1 2 528 39 rfl rfl rfl rfl rfl rfl trivial ?_
                      refine e1 536 rfl ?_
                      refine keep [2] rfl ?_
                      refine W_ret ?_
                      exact out1 2 (SV.b true) (π := []) (hout := []) Try.results8 rfl (by first | rfl | (simp; done) | (simp [*]; done)) rfl rfl trivial rfl
                    · skip
                      try simp only [decide_eq_true_eq, decide_eq_false_iff_not, Bool.not_eq_true', Bool.not_eq_false', beq_iff_eq, bne_iff_ne, beq_eq_false_iff_ne, Bool.and_eq_true, Bool.or_eq_true, Bool.and_eq_false_iff, Bool.or_eq_false_iff, ge_iff_le, gt_iff_lt, Int.not_lt, Int.not_le, ne_eq, Decidable.not_not, bne_eq_false_iff_eq] at hg6_89
                      all_goals (exfalso; first | (simp at hg6_89; done) | (simp at hg6_89; omega) | (simp_all; omega) | omega)
                  · skip
                    try simp only [decide_eq_true_eq, decide_eq_false_iff_not, Bool.not_eq_true', Bool.not_eq_false', beq_iff_eq, bne_iff_ne, beq_eq_false_iff_ne, Bool.and_eq_true, Bool.or_eq_true, Bool.and_eq_false_iff, Bool.or_eq_false_iff, ge_iff_le, gt_iff_lt, Int.not_lt, Int.not_le, ne_eq, Decidable.not_not, bne_eq_false_iff_eq] at hg6_85
                    all_goals (exfalso; first | (simp at hg6_85; done) | (simp at hg6_85; omega) | (simp_all; omega) | omega)
                · skip
                  try simp only [decide_eq_true_eq, decide_eq_false_iff_not, Bool.not_eq_true', Bool.not_eq_false', beq_iff_eq, bne_iff_ne, beq_eq_false_iff_ne, Bool.and_eq_true, Bool.or_eq_true, Bool.and_eq_false_iff, Bool.or_eq_false_iff, ge_iff_le, gt_iff_lt, Int.not_lt, Int.not_le, ne_eq, Decidable.not_not, bne_eq_false_iff_eq] at hg6_80
                  all_goals (exfalso; first | (simp at hg6_80; done) | (simp at hg6_80; omega) | (simp_all; omega) | omega)
              · skip
                try simp only [decide_eq_true_eq, decide_eq_false_iff_not, Bool.not_eq_true', Bool.not_eq_false', beq_iff_eq, bne_iff_ne, beq_eq_false_iff_ne, Bool.and_eq_true, Bool.or_eq_true, Bool.and_eq_false_iff, Bool.or_eq_false_iff, ge_iff_le, gt_iff_lt, Int.not_lt, Int.not_le, ne_eq, Decidable.not_not, bne_eq_false_iff_eq] at hg6_75
                all_goals (exfalso; first | (simp at hg6_75; done) | (simp at hg6_75; omega) | (simp_all; omega) | omega)
            · skip
              try simp only [decide_eq_true_eq, decide_eq_false_iff_not, Bool.not_eq_true', Bool.not_eq_false', beq_iff_eq, bne_iff_ne, beq_eq_false_iff_ne, Bool.and_eq_true, Bool.or_eq_true, Bool.and_eq_false_iff, Bool.or_eq_false_iff, ge_iff_le, gt_iff_lt, Int.not_lt, Int.not_le, ne_eq, Decidable.not_not, bne_eq_false_iff_eq] at hg6_70
              all_goals (exfalso; first | (simp at hg6_70; done) | (simp at hg6_70; omega) | (simp_all; omega) | omega)
          · skip
            try simp only [decide_eq_true_eq, decide_eq_false_iff_not, Bool.not_eq_true', Bool.not_eq_false', beq_iff_eq, bne_iff_ne, beq_eq_false_iff_ne, Bool.and_eq_true, Bool.or_eq_true, Bool.and_eq_false_iff, Bool.or_eq_false_iff, ge_iff_le, gt_iff_lt, Int.not_lt, Int.not_le, ne_eq, Decidable.not_not, bne_eq_false_iff_eq] at hg6_65
            all_goals (exfalso; first | (simp at hg6_65; done) | (simp at hg6_65; omega) | (simp_all; omega) | omega)
        · skip
          try simp only [decide_eq_true_eq, decide_eq_false_iff_not, Bool.not_eq_true', Bool.not_eq_false', beq_iff_eq, bne_iff_ne, beq_eq_false_iff_ne, Bool.and_eq_true, Bool.or_eq_true, Bool.and_eq_false_iff, Bool.or_eq_false_iff, ge_iff_le, gt_iff_lt, Int.not_lt, Int.not_le, ne_eq, Decidable.not_not, bne_eq_false_iff_eq] at hg6_61
          all_goals (exfalso; first | (simp at hg6_61; done) | (simp at hg6_61; omega) | (simp_all; omega) | omega)
      · skip
        try simp only [decide_eq_true_eq, decide_eq_false_iff_not, Bool.not_eq_true', Bool.not_eq_false', beq_iff_eq, bne_iff_ne, beq_eq_false_iff_ne, Bool.and_eq_true, Bool.or_eq_true, Bool.and_eq_false_iff, Bool.or_eq_false_iff, ge_iff_le, gt_iff_lt, Int.not_lt, Int.not_le, ne_eq, Decidable.not_not, bne_eq_false_iff_eq] at hg6_57
        all_goals (exfalso; first | (simp at hg6_57; done) | (simp at hg6_57; omega) | (simp_all; omega) | omega)

theorem law_no (room : Int) (hr : ¬ (1 ≤ room ∧ room ≤ 4)) : Spec Try.prog GV 8 [SV.i room] [] (fun r _ => r = SV.b true) := by
  refine start 93 0 Try.func8 rfl rfl rfl rfl ?_
  refine r1 ?_
  refine s1 2 0 1 rfl rfl rfl rfl rfl rfl trivial ?_
  refine e1 8 rfl ?_
  refine keep [0] rfl ?_
  refine r1 ?_
  refine s1 10 8 1 rfl rfl rfl rfl rfl rfl trivial ?_
  refine c1 (no_Words room hr) [] [] 11 16 2 rfl rfl rfl rfl rfl rfl rfl rfl Try.func28 rfl rfl rfl rfl trivial rfl rfl ?_
  refine s1 9 24 3 rfl rfl rfl rfl rfl rfl trivial ?_
  refine s1 12 32 4 rfl rfl rfl rfl rfl rfl trivial ?_
  refine s1 13 40 5 rfl rfl rfl rfl rfl rfl trivial ?_
  refine s1 3 48 6 rfl rfl rfl rfl rfl rfl trivial ?_
  refine s1 4 56 7 rfl rfl rfl rfl rfl rfl trivial ?_
  refine e1 64 rfl ?_
  refine keep [0, 3, 4] rfl ?_
  refine r1 ?_
  refine s1 15 64 1 rfl rfl rfl rfl rfl rfl trivial ?_
  refine c1 (no_Enter room hr) [] [] 16 72 2 rfl rfl rfl rfl rfl rfl rfl rfl Try.func29 rfl rfl rfl rfl trivial rfl rfl ?_
  refine s1 14 80 3 rfl rfl rfl rfl rfl rfl trivial ?_
  refine s1 17 88 4 rfl rfl rfl rfl rfl rfl trivial ?_
  refine s1 18 96 5 rfl rfl rfl rfl rfl rfl trivial ?_
  refine s1 5 104 6 rfl rfl rfl rfl rfl rfl trivial ?_
  refine s1 6 112 7 rfl rfl rfl rfl rfl rfl trivial ?_
  refine e1 120 rfl ?_
  refine keep [0, 3, 4, 5, 6] rfl ?_
  refine r1 ?_
  refine s1 20 120 1 rfl rfl rfl rfl rfl rfl trivial ?_
  refine c1 (no_Leave room hr) [] [] 21 128 2 rfl rfl rfl rfl rfl rfl rfl rfl Try.func30 rfl rfl rfl rfl trivial rfl rfl ?_
  refine s1 19 136 3 rfl rfl rfl rfl rfl rfl trivial ?_
  refine s1 22 144 4 rfl rfl rfl rfl rfl rfl trivial ?_
  refine s1 23 152 5 rfl rfl rfl rfl rfl rfl trivial ?_
  refine s1 7 160 6 rfl rfl rfl rfl rfl rfl trivial ?_
  refine s1 8 168 7 rfl rfl rfl rfl rfl rfl trivial ?_
  refine e1 176 rfl ?_
  refine keep [0, 3, 4, 5, 6, 7, 8] rfl ?_
  refine W_seq ?_
  refine r1 ?_
  refine s1 24 176 1 rfl rfl rfl rfl rfl rfl trivial ?_
  refine s1 25 184 2 rfl rfl rfl rfl rfl rfl (by first | trivial | omega | (simp only [List.length_map, List.length_append, List.length_cons, List.length_nil] at *; omega)) ?_
  refine s1 26 192 3 rfl rfl rfl rfl rfl rfl trivial ?_
  refine ask 26 rfl (fun hg4_26 => ?_) (fun hg4_26 => ?_)
  · skip
    try simp only [decide_eq_true_eq, decide_eq_false_iff_not, Bool.not_eq_true', Bool.not_eq_false', beq_iff_eq, bne_iff_ne, beq_eq_false_iff_ne, Bool.and_eq_true, Bool.or_eq_true, Bool.and_eq_false_iff, Bool.or_eq_false_iff, ge_iff_le, gt_iff_lt, Int.not_lt, Int.not_le, ne_eq, Decidable.not_not, bne_eq_false_iff_eq] at hg4_26
    refine g0 2 false 26 27 4 rfl rfl rfl rfl rfl rfl ?_
    refine g0 2 false 26 28 5 rfl rfl rfl rfl rfl rfl ?_
    refine s1 29 216 6 rfl rfl rfl rfl rfl rfl trivial ?_
    refine e1 224 rfl ?_
    refine keep [3, 4, 5, 6, 7, 8, 29] rfl ?_
    refine q1 rfl (fun hc4 => ?_) (fun hc4 => ?_)
    · skip
      try simp only [decide_eq_true_eq, decide_eq_false_iff_not, Bool.not_eq_true', Bool.not_eq_false', beq_iff_eq, bne_iff_ne, beq_eq_false_iff_ne, Bool.and_eq_true, Bool.or_eq_true, Bool.and_eq_false_iff, Bool.or_eq_false_iff, ge_iff_le, gt_iff_lt, Int.not_lt, Int.not_le, ne_eq, Decidable.not_not, bne_eq_false_iff_eq] at hc4
      refine r1 ?_
      refine s1 30 224 1 rfl rfl rfl rfl rfl rfl trivial ?_
      refine s1 31 232 2 rfl rfl rfl rfl rfl rfl (by first | trivial | omega | (simp only [List.length_map, List.length_append, List.length_cons, List.length_nil] at *; omega)) ?_
      refine s1 32 240 3 rfl rfl rfl rfl rfl rfl (by first | trivial | omega | (simp only [List.length_map, List.length_append, List.length_cons, List.length_nil] at *; omega)) ?_
      refine s1 33 248 4 rfl rfl rfl rfl rfl rfl trivial ?_
      refine ask 33 rfl (fun hg5_33 => ?_) (fun hg5_33 => ?_)
      · skip
        try simp only [decide_eq_true_eq, decide_eq_false_iff_not, Bool.not_eq_true', Bool.not_eq_false', beq_iff_eq, bne_iff_ne, beq_eq_false_iff_ne, Bool.and_eq_true, Bool.or_eq_true, Bool.and_eq_false_iff, Bool.or_eq_false_iff, ge_iff_le, gt_iff_lt, Int.not_lt, Int.not_le, ne_eq, Decidable.not_not, bne_eq_false_iff_eq] at hg5_33
        refine g1 3 true 33 34 5 rfl rfl rfl rfl rfl ?_
        refine s1 34 256 5 rfl rfl rfl rfl rfl rfl trivial ?_
        refine g1 3 true 33 35 6 rfl rfl rfl rfl rfl ?_
        refine s1 35 264 6 rfl rfl rfl rfl rfl rfl (by first | trivial | omega | (simp only [List.length_map, List.length_append, List.length_cons, List.length_nil] at *; omega)) ?_
        refine g1 3 true 33 36 7 rfl rfl rfl rfl rfl ?_
        refine s1 36 272 7 rfl rfl rfl rfl rfl rfl (by first | trivial | omega | (simp only [List.length_map, List.length_append, List.length_cons, List.length_nil] at *; omega)) ?_
        refine s1 37 280 8 rfl rfl rfl rfl rfl rfl trivial ?_
        refine s1 38 288 9 rfl rfl rfl rfl rfl rfl trivial ?_
        refine ask 38 rfl (fun hg5_38 => ?_) (fun hg5_38 => ?_)
        · skip
          try simp only [decide_eq_true_eq, decide_eq_false_iff_not, Bool.not_eq_true', Bool.not_eq_false', beq_iff_eq, bne_iff_ne, beq_eq_false_iff_ne, Bool.and_eq_true, Bool.or_eq_true, Bool.and_eq_false_iff, Bool.or_eq_false_iff, ge_iff_le, gt_iff_lt, Int.not_lt, Int.not_le, ne_eq, Decidable.not_not, bne_eq_false_iff_eq] at hg5_38
          refine g1 8 true 38 39 10 rfl rfl rfl rfl rfl ?_
          refine s1 39 296 10 rfl rfl rfl rfl rfl rfl trivial ?_
          refine g1 8 true 38 40 11 rfl rfl rfl rfl rfl ?_
          refine s1 40 304 11 rfl rfl rfl rfl rfl rfl (by first | trivial | omega | (simp only [List.length_map, List.length_append, List.length_cons, List.length_nil] at *; omega)) ?_
          refine g1 8 true 38 41 12 rfl rfl rfl rfl rfl ?_
          refine s1 41 312 12 rfl rfl rfl rfl rfl rfl (by first | trivial | omega | (simp only [List.length_map, List.length_append, List.length_cons, List.length_nil] at *; omega)) ?_
          refine s1 42 320 13 rfl rfl rfl rfl rfl rfl trivial ?_
          refine s1 43 328 14 rfl rfl rfl rfl rfl rfl trivial ?_
          refine ask 43 rfl (fun hg5_43 => ?_) (fun hg5_43 => ?_)
          · skip
            try simp only [decide_eq_true_eq, decide_eq_false_iff_not, Bool.not_eq_true', Bool.not_eq_false', beq_iff_eq, bne_iff_ne, beq_eq_false_iff_ne, Bool.and_eq_true, Bool.or_eq_true, Bool.and_eq_false_iff, Bool.or_eq_false_iff, ge_iff_le, gt_iff_lt, Int.not_lt, Int.not_le, ne_eq, Decidable.not_not, bne_eq_false_iff_eq] at hg5_43
            refine g1 13 true 43 44 15 rfl rfl rfl rfl rfl ?_
            refine s1 44 336 15 rfl rfl rfl rfl rfl rfl trivial ?_
            refine g1 13 true 43 45 16 rfl rfl rfl rfl rfl ?_
            refine s1 45 344 16 rfl rfl rfl rfl rfl rfl (by first | trivial | omega | (simp only [List.length_map, List.length_append, List.length_cons, List.length_nil] at *; omega)) ?_
            refine s1 46 352 17 rfl rfl rfl rfl rfl rfl trivial ?_
            refine s1 47 360 18 rfl rfl rfl rfl rfl rfl trivial ?_
            refine ask 47 rfl (fun hg5_47 => ?_) (fun hg5_47 => ?_)
            · skip
              try simp only [decide_eq_true_eq, decide_eq_false_iff_not, Bool.not_eq_true', Bool.not_eq_false', beq_iff_eq, bne_iff_ne, beq_eq_false_iff_ne, Bool.and_eq_true, Bool.or_eq_true, Bool.and_eq_false_iff, Bool.or_eq_false_iff, ge_iff_le, gt_iff_lt, Int.not_lt, Int.not_le, ne_eq, Decidable.not_not, bne_eq_false_iff_eq] at hg5_47
              refine g1 17 true 47 48 19 rfl rfl rfl rfl rfl ?_
              refine s1 48 368 19 rfl rfl rfl rfl rfl rfl trivial ?_
              refine g1 17 true 47 49 20 rfl rfl rfl rfl rfl ?_
              refine s1 49 376 20 rfl rfl rfl rfl rfl rfl (by first | trivial | omega | (simp only [List.length_map, List.length_append, List.length_cons, List.length_nil] at *; omega)) ?_
              refine s1 50 384 21 rfl rfl rfl rfl rfl rfl trivial ?_
              refine s1 51 392 22 rfl rfl rfl rfl rfl rfl trivial ?_
              refine ask 51 rfl (fun hg5_51 => ?_) (fun hg5_51 => ?_)
              · skip
                try simp only [decide_eq_true_eq, decide_eq_false_iff_not, Bool.not_eq_true', Bool.not_eq_false', beq_iff_eq, bne_iff_ne, beq_eq_false_iff_ne, Bool.and_eq_true, Bool.or_eq_true, Bool.and_eq_false_iff, Bool.or_eq_false_iff, ge_iff_le, gt_iff_lt, Int.not_lt, Int.not_le, ne_eq, Decidable.not_not, bne_eq_false_iff_eq] at hg5_51
                refine g1 21 true 51 52 23 rfl rfl rfl rfl rfl ?_
                refine s1 52 400 23 rfl rfl rfl rfl rfl rfl trivial ?_
                refine g1 21 true 51 53 24 rfl rfl rfl rfl rfl ?_
                refine s1 53 408 24 rfl rfl rfl rfl rfl rfl (by first | trivial | omega | (simp only [List.length_map, List.length_append, List.length_cons, List.length_nil] at *; omega)) ?_
                refine s1 54 416 25 rfl rfl rfl rfl rfl rfl trivial ?_
                refine s1 2 424 26 rfl rfl rfl rfl rfl rfl trivial ?_
                refine e1 432 rfl ?_
                refine keep [2] rfl ?_
                refine W_ret ?_
                refine tr ?_
                exact out1 2 (SV.b true) (π := []) (hout := []) Try.results8 rfl (by first | rfl | (simp; done) | (simp [*]; done)) rfl rfl trivial rfl
              · skip
                try simp only [decide_eq_true_eq, decide_eq_false_iff_not, Bool.not_eq_true', Bool.not_eq_false', beq_iff_eq, bne_iff_ne, beq_eq_false_iff_ne, Bool.and_eq_true, Bool.or_eq_true, Bool.and_eq_false_iff, Bool.or_eq_false_iff, ge_iff_le, gt_iff_lt, Int.not_lt, Int.not_le, ne_eq, Decidable.not_not, bne_eq_false_iff_eq] at hg5_51
                all_goals (exfalso; first | (simp at hg5_51; done) | (simp at hg5_51; omega) | (simp_all; omega) | omega)
            · skip
              try simp only [decide_eq_true_eq, decide_eq_false_iff_not, Bool.not_eq_true', Bool.not_eq_false', beq_iff_eq, bne_iff_ne, beq_eq_false_iff_ne, Bool.and_eq_true, Bool.or_eq_true, Bool.and_eq_false_iff, Bool.or_eq_false_iff, ge_iff_le, gt_iff_lt, Int.not_lt, Int.not_le, ne_eq, Decidable.not_not, bne_eq_false_iff_eq] at hg5_47
              all_goals (exfalso; first | (simp at hg5_47; done) | (simp at hg5_47; omega) | (simp_all; omega) | omega)
          · skip
            try simp only [decide_eq_true_eq, decide_eq_false_iff_not, Bool.not_eq_true', Bool.not_eq_false', beq_iff_eq, bne_iff_ne, beq_eq_false_iff_ne, Bool.and_eq_true, Bool.or_eq_true, Bool.and_eq_false_iff, Bool.or_eq_false_iff, ge_iff_le, gt_iff_lt, Int.not_lt, Int.not_le, ne_eq, Decidable.not_not, bne_eq_false_iff_eq] at hg5_43
            all_goals (exfalso; first | (simp at hg5_43; done) | (simp at hg5_43; omega) | (simp_all; omega) | omega)
        · skip
          try simp only [decide_eq_true_eq, decide_eq_false_iff_not, Bool.not_eq_true', Bool.not_eq_false', beq_iff_eq, bne_iff_ne, beq_eq_false_iff_ne, Bool.and_eq_true, Bool.or_eq_true, Bool.and_eq_false_iff, Bool.or_eq_false_iff, ge_iff_le, gt_iff_lt, Int.not_lt, Int.not_le, ne_eq, Decidable.not_not, bne_eq_false_iff_eq] at hg5_38
          all_goals (exfalso; first | (simp at hg5_38; done) | (simp at hg5_38; omega) | (simp_all; omega) | omega)
      · skip
        try simp only [decide_eq_true_eq, decide_eq_false_iff_not, Bool.not_eq_true', Bool.not_eq_false', beq_iff_eq, bne_iff_ne, beq_eq_false_iff_ne, Bool.and_eq_true, Bool.or_eq_true, Bool.and_eq_false_iff, Bool.or_eq_false_iff, ge_iff_le, gt_iff_lt, Int.not_lt, Int.not_le, ne_eq, Decidable.not_not, bne_eq_false_iff_eq] at hg5_33
        all_goals (exfalso; first | (simp at hg5_33; done) | (simp at hg5_33; omega) | (simp_all; omega) | omega)
    · skip
      exact absurd hc4 (by decide)
  · skip
    try simp only [decide_eq_true_eq, decide_eq_false_iff_not, Bool.not_eq_true', Bool.not_eq_false', beq_iff_eq, bne_iff_ne, beq_eq_false_iff_ne, Bool.and_eq_true, Bool.or_eq_true, Bool.and_eq_false_iff, Bool.or_eq_false_iff, ge_iff_le, gt_iff_lt, Int.not_lt, Int.not_le, ne_eq, Decidable.not_not, bne_eq_false_iff_eq] at hg4_26
    refine g1 2 false 26 27 4 rfl rfl rfl rfl rfl ?_
    refine s1 27 200 4 rfl rfl rfl rfl rfl rfl trivial ?_
    refine g1 2 false 26 28 5 rfl rfl rfl rfl rfl ?_
    refine s1 28 208 5 rfl rfl rfl rfl rfl rfl (by first | trivial | omega | (simp only [List.length_map, List.length_append, List.length_cons, List.length_nil] at *; omega)) ?_
    refine s1 29 216 6 rfl rfl rfl rfl rfl rfl trivial ?_
    refine e1 224 rfl ?_
    refine keep [3, 4, 5, 6, 7, 8, 29] rfl ?_
    refine q1 rfl (fun hc4 => ?_) (fun hc4 => ?_)
    · skip
      try simp only [decide_eq_true_eq, decide_eq_false_iff_not, Bool.not_eq_true', Bool.not_eq_false', beq_iff_eq, bne_iff_ne, beq_eq_false_iff_ne, Bool.and_eq_true, Bool.or_eq_true, Bool.and_eq_false_iff, Bool.or_eq_false_iff, ge_iff_le, gt_iff_lt, Int.not_lt, Int.not_le, ne_eq, Decidable.not_not, bne_eq_false_iff_eq] at hc4
      refine r1 ?_
      refine s1 30 224 1 rfl rfl rfl rfl rfl rfl trivial ?_
      refine s1 31 232 2 rfl rfl rfl rfl rfl rfl (by first | trivial | omega | (simp only [List.length_map, List.length_append, List.length_cons, List.length_nil] at *; omega)) ?_
      refine s1 32 240 3 rfl rfl rfl rfl rfl rfl (by first | trivial | omega | (simp only [List.length_map, List.length_append, List.length_cons, List.length_nil] at *; omega)) ?_
      refine s1 33 248 4 rfl rfl rfl rfl rfl rfl trivial ?_
      refine ask 33 rfl (fun hg5_33 => ?_) (fun hg5_33 => ?_)
      · skip
        try simp only [decide_eq_true_eq, decide_eq_false_iff_not, Bool.not_eq_true', Bool.not_eq_false', beq_iff_eq, bne_iff_ne, beq_eq_false_iff_ne, Bool.and_eq_true, Bool.or_eq_true, Bool.and_eq_false_iff, Bool.or_eq_false_iff, ge_iff_le, gt_iff_lt, Int.not_lt, Int.not_le, ne_eq, Decidable.not_not, bne_eq_false_iff_eq] at hg5_33
        refine g1 3 true 33 34 5 rfl rfl rfl rfl rfl ?_
        refine s1 34 256 5 rfl rfl rfl rfl rfl rfl trivial ?_
        refine g1 3 true 33 35 6 rfl rfl rfl rfl rfl ?_
        refine s1 35 264 6 rfl rfl rfl rfl rfl rfl (by first | trivial | omega | (simp only [List.length_map, List.length_append, List.length_cons, List.length_nil] at *; omega)) ?_
        refine g1 3 true 33 36 7 rfl rfl rfl rfl rfl ?_
        refine s1 36 272 7 rfl rfl rfl rfl rfl rfl (by first | trivial | omega | (simp only [List.length_map, List.length_append, List.length_cons, List.length_nil] at *; omega)) ?_
        refine s1 37 280 8 rfl rfl rfl rfl rfl rfl trivial ?_
        refine s1 38 288 9 rfl rfl rfl rfl rfl rfl trivial ?_
        refine ask 38 rfl (fun hg5_38 => ?_) (fun hg5_38 => ?_)
        · skip
          try simp only [decide_eq_true_eq, decide_eq_false_iff_not, Bool.not_eq_true', Bool.not_eq_false', beq_iff_eq, bne_iff_ne, beq_eq_false_iff_ne, Bool.and_eq_true, Bool.or_eq_true, Bool.and_eq_false_iff, Bool.or_eq_false_iff, ge_iff_le, gt_iff_lt, Int.not_lt, Int.not_le, ne_eq, Decidable.not_not, bne_eq_false_iff_eq] at hg5_38
          refine g1 8 true 38 39 10 rfl rfl rfl rfl rfl ?_
          refine s1 39 296 10 rfl rfl rfl rfl rfl rfl trivial ?_
          refine g1 8 true 38 40 11 rfl rfl rfl rfl rfl ?_
          refine s1 40 304 11 rfl rfl rfl rfl rfl rfl (by first | trivial | omega | (simp only [List.length_map, List.length_append, List.length_cons, List.length_nil] at *; omega)) ?_
          refine g1 8 true 38 41 12 rfl rfl rfl rfl rfl ?_
          refine s1 41 312 12 rfl rfl rfl rfl rfl rfl (by first | trivial | omega | (simp only [List.length_map, List.length_append, List.length_cons, List.length_nil] at *; omega)) ?_
          refine s1 42 320 13 rfl rfl rfl rfl rfl rfl trivial ?_
          refine s1 43 328 14 rfl rfl rfl rfl rfl rfl trivial ?_
          refine ask 43 rfl (fun hg5_43 => ?_) (fun hg5_43 => ?_)
          · skip
            try simp only [decide_eq_true_eq, decide_eq_false_iff_not, Bool.not_eq_true', Bool.not_eq_false', beq_iff_eq, bne_iff_ne, beq_eq_false_iff_ne, Bool.and_eq_true, Bool.or_eq_true, Bool.and_eq_false_iff, Bool.or_eq_false_iff, ge_iff_le, gt_iff_lt, Int.not_lt, Int.not_le, ne_eq, Decidable.not_not, bne_eq_false_iff_eq] at hg5_43
            refine g1 13 true 43 44 15 rfl rfl rfl rfl rfl ?_
            refine s1 44 336 15 rfl rfl rfl rfl rfl rfl trivial ?_
            refine g1 13 true 43 45 16 rfl rfl rfl rfl rfl ?_
            refine s1 45 344 16 rfl rfl rfl rfl rfl rfl (by first | trivial | omega | (simp only [List.length_map, List.length_append, List.length_cons, List.length_nil] at *; omega)) ?_
            refine s1 46 352 17 rfl rfl rfl rfl rfl rfl trivial ?_
            refine s1 47 360 18 rfl rfl rfl rfl rfl rfl trivial ?_
            refine ask 47 rfl (fun hg5_47 => ?_) (fun hg5_47 => ?_)
            · skip
              try simp only [decide_eq_true_eq, decide_eq_false_iff_not, Bool.not_eq_true', Bool.not_eq_false', beq_iff_eq, bne_iff_ne, beq_eq_false_iff_ne, Bool.and_eq_true, Bool.or_eq_true, Bool.and_eq_false_iff, Bool.or_eq_false_iff, ge_iff_le, gt_iff_lt, Int.not_lt, Int.not_le, ne_eq, Decidable.not_not, bne_eq_false_iff_eq] at hg5_47
              refine g1 17 true 47 48 19 rfl rfl rfl rfl rfl ?_
              refine s1 48 368 19 rfl rfl rfl rfl rfl rfl trivial ?_
              refine g1 17 true 47 49 20 rfl rfl rfl rfl rfl ?_
              refine s1 49 376 20 rfl rfl rfl rfl rfl rfl (by first | trivial | omega | (simp only [List.length_map, List.length_append, List.length_cons, List.length_nil] at *; omega)) ?_
              refine s1 50 384 21 rfl rfl rfl rfl rfl rfl trivial ?_
              refine s1 51 392 22 rfl rfl rfl rfl rfl rfl trivial ?_
              refine ask 51 rfl (fun hg5_51 => ?_) (fun hg5_51 => ?_)
              · skip
                try simp only [decide_eq_true_eq, decide_eq_false_iff_not, Bool.not_eq_true', Bool.not_eq_false', beq_iff_eq, bne_iff_ne, beq_eq_false_iff_ne, Bool.and_eq_true, Bool.or_eq_true, Bool.and_eq_false_iff, Bool.or_eq_false_iff, ge_iff_le, gt_iff_lt, Int.not_lt, Int.not_le, ne_eq, Decidable.not_not, bne_eq_false_iff_eq] at hg5_51
                refine g1 21 true 51 52 23 rfl rfl rfl rfl rfl ?_
                refine s1 52 400 23 rfl rfl rfl rfl rfl rfl trivial ?_
                refine g1 21 true 51 53 24 rfl rfl rfl rfl rfl ?_
                refine s1 53 408 24 rfl rfl rfl rfl rfl rfl (by first | trivial | omega | (simp only [List.length_map, List.length_append, List.length_cons, List.length_nil] at *; omega)) ?_
                refine s1 54 416 25 rfl rfl rfl rfl rfl rfl trivial ?_
                refine s1 2 424 26 rfl rfl rfl rfl rfl rfl trivial ?_
                refine e1 432 rfl ?_
                refine keep [2] rfl ?_
                refine W_ret ?_
                refine tr ?_
                exact out1 2 (SV.b true) (π := []) (hout := []) Try.results8 rfl (by first | rfl | (simp; done) | (simp [*]; done)) rfl rfl trivial rfl
              · skip
                try simp only [decide_eq_true_eq, decide_eq_false_iff_not, Bool.not_eq_true', Bool.not_eq_false', beq_iff_eq, bne_iff_ne, beq_eq_false_iff_ne, Bool.and_eq_true, Bool.or_eq_true, Bool.and_eq_false_iff, Bool.or_eq_false_iff, ge_iff_le, gt_iff_lt, Int.not_lt, Int.not_le, ne_eq, Decidable.not_not, bne_eq_false_iff_eq] at hg5_51
                all_goals (exfalso; first | (simp at hg5_51; done) | (simp at hg5_51; omega) | (simp_all; omega) | omega)
            · skip
              try simp only [decide_eq_true_eq, decide_eq_false_iff_not, Bool.not_eq_true', Bool.not_eq_false', beq_iff_eq, bne_iff_ne, beq_eq_false_iff_ne, Bool.and_eq_true, Bool.or_eq_true, Bool.and_eq_false_iff, Bool.or_eq_false_iff, ge_iff_le, gt_iff_lt, Int.not_lt, Int.not_le, ne_eq, Decidable.not_not, bne_eq_false_iff_eq] at hg5_47
              all_goals (exfalso; first | (simp at hg5_47; done) | (simp at hg5_47; omega) | (simp_all; omega) | omega)
          · skip
            try simp only [decide_eq_true_eq, decide_eq_false_iff_not, Bool.not_eq_true', Bool.not_eq_false', beq_iff_eq, bne_iff_ne, beq_eq_false_iff_ne, Bool.and_eq_true, Bool.or_eq_true, Bool.and_eq_false_iff, Bool.or_eq_false_iff, ge_iff_le, gt_iff_lt, Int.not_lt, Int.not_le, ne_eq, Decidable.not_not, bne_eq_false_iff_eq] at hg5_43
            all_goals (exfalso; first | (simp at hg5_43; done) | (simp at hg5_43; omega) | (simp_all; omega) | omega)
        · skip
          try simp only [decide_eq_true_eq, decide_eq_false_iff_not, Bool.not_eq_true', Bool.not_eq_false', beq_iff_eq, bne_iff_ne, beq_eq_false_iff_ne, Bool.and_eq_true, Bool.or_eq_true, Bool.and_eq_false_iff, Bool.or_eq_false_iff, ge_iff_le, gt_iff_lt, Int.not_lt, Int.not_le, ne_eq, Decidable.not_not, bne_eq_false_iff_eq] at hg5_38
          all_goals (exfalso; first | (simp at hg5_38; done) | (simp at hg5_38; omega) | (simp_all; omega) | omega)
      · skip
        try simp only [decide_eq_true_eq, decide_eq_false_iff_not, Bool.not_eq_true', Bool.not_eq_false', beq_iff_eq, bne_iff_ne, beq_eq_false_iff_ne, Bool.and_eq_true, Bool.or_eq_true, Bool.and_eq_false_iff, Bool.or_eq_false_iff, ge_iff_le, gt_iff_lt, Int.not_lt, Int.not_le, ne_eq, Decidable.not_not, bne_eq_false_iff_eq] at hg5_33
        all_goals (exfalso; first | (simp at hg5_33; done) | (simp at hg5_33; omega) | (simp_all; omega) | omega)
    · skip
      exfalso; simp at hc4; omega

theorem law_all (room : Int) : Spec Try.prog GV 8 [SV.i room] [] (fun r _ => r = SV.b true) := by
  by_cases hr : 1 ≤ room ∧ room ≤ 4
  · exact law_yes room hr
  · exact law_no room hr

end Go.Proofs.Ytnmbdggdilbdaaa.Nice
