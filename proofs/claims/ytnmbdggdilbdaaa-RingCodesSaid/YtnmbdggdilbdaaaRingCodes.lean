/- The codes of package ring, and the law RingCodes. -/
import Derived.Test.YtnmbdggdilbdaaaCodeMay
namespace Go.Proofs.Ytnmbdggdilbdaaa.Nice
open Go
set_option linter.unusedVariables false
set_option linter.unusedSimpArgs false
set_option maxRecDepth 100000
set_option maxHeartbeats 4000000
abbrev st_all : ByteArray := ⟨#[97, 108, 108]⟩
abbrev st_at : ByteArray := ⟨#[97, 116]⟩
abbrev st_base : ByteArray := ⟨#[98, 97, 115, 101]⟩
abbrev st_full : ByteArray := ⟨#[102, 117, 108, 108]⟩
abbrev st_n : ByteArray := ⟨#[110]⟩
abbrev st_no : ByteArray := ⟨#[110, 111]⟩
abbrev st_none : ByteArray := ⟨#[110, 111, 110, 101]⟩
abbrev st_one : ByteArray := ⟨#[111, 110, 101]⟩
abbrev st_put : ByteArray := ⟨#[112, 117, 116]⟩
abbrev st_taken : ByteArray := ⟨#[116, 97, 107, 101, 110]⟩
abbrev st_v : ByteArray := ⟨#[118]⟩
theorem may_any (places : Int) : Spec Try.prog GV 61 [SV.i places] [] (fun r ho => r = SV.b ((decide (1 ≤ places) && decide (places ≤ 8))) ∧ ho = []) := by
  refine start 9 0 Try.func61 rfl rfl rfl rfl ?_
  refine r1 ?_
  refine s1 2 0 1 rfl rfl rfl rfl rfl rfl trivial ?_
  refine e1 8 rfl ?_
  refine keep [0] rfl ?_
  refine r1 ?_
  refine s1 3 8 1 rfl rfl rfl rfl rfl rfl trivial ?_
  refine s1 4 16 2 rfl rfl rfl rfl rfl rfl (by first | trivial | omega | (simp only [List.length_map, List.length_append, List.length_cons, List.length_nil] at *; omega)) ?_
  refine s1 5 24 3 rfl rfl rfl rfl rfl rfl trivial ?_
  refine ask 5 rfl (fun hg1_5 => ?_) (fun hg1_5 => ?_)
  · skip
    try simp only [decide_eq_true_eq, decide_eq_false_iff_not, Bool.not_eq_true', Bool.not_eq_false', beq_iff_eq, bne_iff_ne, beq_eq_false_iff_ne, Bool.and_eq_true, Bool.or_eq_true, Bool.and_eq_false_iff, Bool.or_eq_false_iff, ge_iff_le, gt_iff_lt, Int.not_lt, Int.not_le, ne_eq, Decidable.not_not, bne_eq_false_iff_eq] at hg1_5
    refine g1 2 true 5 6 4 rfl rfl rfl rfl rfl ?_
    refine s1 6 32 4 rfl rfl rfl rfl rfl rfl trivial ?_
    refine g1 2 true 5 7 5 rfl rfl rfl rfl rfl ?_
    refine s1 7 40 5 rfl rfl rfl rfl rfl rfl (by first | trivial | omega | (simp only [List.length_map, List.length_append, List.length_cons, List.length_nil] at *; omega)) ?_
    refine s1 8 48 6 rfl rfl rfl rfl rfl rfl trivial ?_
    refine s1 2 56 7 rfl rfl rfl rfl rfl rfl trivial ?_
    refine e1 64 rfl ?_
    refine keep [2] rfl ?_
    refine W_ret ?_
    exact out1 2 (SV.b ((decide (1 ≤ places) && decide (places ≤ 8)))) (π := []) (hout := []) Try.results61 rfl (by show SV.b _ = SV.b _; refine congrArg SV.b (Bool.eq_iff_iff.2 ?_); simp at *; try omega) rfl rfl trivial ⟨rfl, rfl⟩
  · skip
    try simp only [decide_eq_true_eq, decide_eq_false_iff_not, Bool.not_eq_true', Bool.not_eq_false', beq_iff_eq, bne_iff_ne, beq_eq_false_iff_ne, Bool.and_eq_true, Bool.or_eq_true, Bool.and_eq_false_iff, Bool.or_eq_false_iff, ge_iff_le, gt_iff_lt, Int.not_lt, Int.not_le, ne_eq, Decidable.not_not, bne_eq_false_iff_eq] at hg1_5
    refine g0 2 true 5 6 4 rfl rfl rfl rfl rfl rfl ?_
    refine g0 2 true 5 7 5 rfl rfl rfl rfl rfl rfl ?_
    refine s1 8 48 6 rfl rfl rfl rfl rfl rfl trivial ?_
    refine s1 2 56 7 rfl rfl rfl rfl rfl rfl trivial ?_
    refine e1 64 rfl ?_
    refine keep [2] rfl ?_
    refine W_ret ?_
    exact out1 2 (SV.b ((decide (1 ≤ places) && decide (places ≤ 8)))) (π := []) (hout := []) Try.results61 rfl (by show SV.b _ = SV.b _; refine congrArg SV.b (Bool.eq_iff_iff.2 ?_); simp at *; try omega) rfl rfl trivial ⟨rfl, rfl⟩

def B_ends (places : Int) (l : List ByteArray) : Bld := (((((mk l).set st_one 1).set st_all places).word 13 st_put st_base 0).word 13 st_taken st_base 1)
theorem give_ends (places : Int) (l : List ByteArray) (hl : l.length ≤ 100) : Spec Try.prog GV 62 [SV.i places, .d (.vec 1 l.length (strsF l))] [] (fun r ho => r = .ptr 0 0 0 ∧ ho = [some (.cells 58 4 [.sl 1 0 (B_ends places l).ops.length, .map 2, .sl 3 0 (B_ends places l).gotos.length, .map 4]), some (.rows 42 5 (B_ends places l).ops.length (insF (B_ends places l).ops)), some (.map (mapE (B_ends places l).places)), some (.rows 62 2 (B_ends places l).gotos.length (gotoF (B_ends places l).gotos)), some (.map (mapE (B_ends places l).regs))]) := by
  refine start 12 0 Try.func62 rfl rfl rfl rfl ?_
  refine r1 ?_
  refine s1 4 0 1 rfl rfl rfl rfl rfl rfl trivial ?_
  refine e1 8 rfl ?_
  refine keep [0, 1] rfl ?_
  refine r1 ?_
  refine s1 5 8 1 rfl rfl rfl rfl rfl rfl trivial ?_
  refine c1 (new_any l hl) [] [16, 17, 18, 19, 20] 6 16 2 rfl rfl rfl rfl rfl rfl rfl rfl Try.func45 rfl rfl rfl rfl trivial rfl rfl ?_
  have hb1 := ok_mk l
  refine c1 (set_any (mk l) st_one 1 hb1 (by decide)) [16, 17, 18, 19, 20] [16, 17, 18, 19, 20, 24] 7 24 3 rfl rfl rfl rfl rfl rfl rfl rfl Try.func46 rfl rfl rfl rfl ⟨rfl, rfl, rfl, rfl, rfl, trivial⟩ rfl rfl ?_
  have hb2 := ok_set st_one 1 hb1
  refine s1 8 32 4 rfl rfl rfl rfl rfl rfl trivial ?_
  refine c1 (set_any ((mk l).set st_one 1) st_all places hb2 (by decide)) [16, 24, 18, 19, 20] [16, 24, 18, 19, 20, 40] 9 40 5 rfl rfl rfl rfl rfl rfl rfl rfl Try.func46 rfl rfl rfl rfl ⟨rfl, rfl, rfl, rfl, rfl, trivial⟩ rfl rfl ?_
  have hb3 := ok_set st_all places hb2
  refine c1 (word_any (((mk l).set st_one 1).set st_all places) 13 st_put st_base 0 hb3 (by decide)) [16, 40, 18, 19, 20] [16, 40, 18, 19, 20, 48] 10 48 6 rfl rfl rfl rfl rfl rfl rfl rfl Try.func52 rfl rfl rfl rfl ⟨rfl, rfl, rfl, rfl, rfl, trivial⟩ rfl rfl ?_
  have hb4 := ok_word 13 st_put st_base 0 hb3
  refine c1 (word_any ((((mk l).set st_one 1).set st_all places).word 13 st_put st_base 0) 13 st_taken st_base 1 hb4 (by decide)) [16, 48, 18, 19, 20] [16, 48, 18, 19, 20, 56] 11 56 7 rfl rfl rfl rfl rfl rfl rfl rfl Try.func52 rfl rfl rfl rfl ⟨rfl, rfl, rfl, rfl, rfl, trivial⟩ rfl rfl ?_
  have hb5 := ok_word 13 st_taken st_base 1 hb4
  refine s1 4 64 8 rfl rfl rfl rfl rfl rfl trivial ?_
  refine e1 72 rfl ?_
  refine keep [4] rfl ?_
  refine W_ret ?_
  exact out1 4 (.ptr 0 0 0) (π := [16, 56, 18, 19, 20]) (hout := [some (.cells 58 4 [.sl 1 0 (B_ends places l).ops.length, .map 2, .sl 3 0 (B_ends places l).gotos.length, .map 4]), some (.rows 42 5 (B_ends places l).ops.length (insF (B_ends places l).ops)), some (.map (mapE (B_ends places l).places)), some (.rows 62 2 (B_ends places l).gotos.length (gotoF (B_ends places l).gotos)), some (.map (mapE (B_ends places l).regs))]) Try.results62 rfl rfl rfl rfl ⟨rfl, rfl, rfl, rfl, rfl, trivial⟩ ⟨rfl, rfl⟩

theorem okb_ends (places : Int) (l : List ByteArray) : (B_ends places l).ok 4 := ok_word 13 st_taken st_base 1 (ok_word 13 st_put st_base 0 (ok_set st_all places (ok_set st_one 1 (ok_mk l))))

def B_ends0 (places : Int) : Bld := (((((mk []).set st_one 1).set st_all places).word 13 st_put st_base 0).word 13 st_taken st_base 1)
theorem give_ends0 (places : Int) : Spec Try.prog GV 62 [SV.i places, .d .nils] [] (fun r ho => r = .ptr 0 0 0 ∧ ho = [some (.cells 58 4 [.sl 1 0 (B_ends0 places).ops.length, .map 2, .sl 3 0 (B_ends0 places).gotos.length, .map 4]), some (.rows 42 5 (B_ends0 places).ops.length (insF (B_ends0 places).ops)), some (.map (mapE (B_ends0 places).places)), some (.rows 62 2 (B_ends0 places).gotos.length (gotoF (B_ends0 places).gotos)), some (.map (mapE (B_ends0 places).regs))]) := by
  refine start 12 0 Try.func62 rfl rfl rfl rfl ?_
  refine r1 ?_
  refine s1 4 0 1 rfl rfl rfl rfl rfl rfl trivial ?_
  refine e1 8 rfl ?_
  refine keep [0, 1] rfl ?_
  refine r1 ?_
  refine s1 5 8 1 rfl rfl rfl rfl rfl rfl trivial ?_
  refine c1 (nil_any) [] [16, 17, 18, 19, 20] 6 16 2 rfl rfl rfl rfl rfl rfl rfl rfl Try.func45 rfl rfl rfl rfl trivial rfl rfl ?_
  have hb1 := ok_mk []
  refine c1 (set_any (mk []) st_one 1 hb1 (by decide)) [16, 17, 18, 19, 20] [16, 17, 18, 19, 20, 24] 7 24 3 rfl rfl rfl rfl rfl rfl rfl rfl Try.func46 rfl rfl rfl rfl ⟨rfl, rfl, rfl, rfl, rfl, trivial⟩ rfl rfl ?_
  have hb2 := ok_set st_one 1 hb1
  refine s1 8 32 4 rfl rfl rfl rfl rfl rfl trivial ?_
  refine c1 (set_any ((mk []).set st_one 1) st_all places hb2 (by decide)) [16, 24, 18, 19, 20] [16, 24, 18, 19, 20, 40] 9 40 5 rfl rfl rfl rfl rfl rfl rfl rfl Try.func46 rfl rfl rfl rfl ⟨rfl, rfl, rfl, rfl, rfl, trivial⟩ rfl rfl ?_
  have hb3 := ok_set st_all places hb2
  refine c1 (word_any (((mk []).set st_one 1).set st_all places) 13 st_put st_base 0 hb3 (by decide)) [16, 40, 18, 19, 20] [16, 40, 18, 19, 20, 48] 10 48 6 rfl rfl rfl rfl rfl rfl rfl rfl Try.func52 rfl rfl rfl rfl ⟨rfl, rfl, rfl, rfl, rfl, trivial⟩ rfl rfl ?_
  have hb4 := ok_word 13 st_put st_base 0 hb3
  refine c1 (word_any ((((mk []).set st_one 1).set st_all places).word 13 st_put st_base 0) 13 st_taken st_base 1 hb4 (by decide)) [16, 48, 18, 19, 20] [16, 48, 18, 19, 20, 56] 11 56 7 rfl rfl rfl rfl rfl rfl rfl rfl Try.func52 rfl rfl rfl rfl ⟨rfl, rfl, rfl, rfl, rfl, trivial⟩ rfl rfl ?_
  have hb5 := ok_word 13 st_taken st_base 1 hb4
  refine s1 4 64 8 rfl rfl rfl rfl rfl rfl trivial ?_
  refine e1 72 rfl ?_
  refine keep [4] rfl ?_
  refine W_ret ?_
  exact out1 4 (.ptr 0 0 0) (π := [16, 56, 18, 19, 20]) (hout := [some (.cells 58 4 [.sl 1 0 (B_ends0 places).ops.length, .map 2, .sl 3 0 (B_ends0 places).gotos.length, .map 4]), some (.rows 42 5 (B_ends0 places).ops.length (insF (B_ends0 places).ops)), some (.map (mapE (B_ends0 places).places)), some (.rows 62 2 (B_ends0 places).gotos.length (gotoF (B_ends0 places).gotos)), some (.map (mapE (B_ends0 places).regs))]) Try.results62 rfl rfl rfl rfl ⟨rfl, rfl, rfl, rfl, rfl, trivial⟩ ⟨rfl, rfl⟩

theorem okb_ends0 (places : Int) : (B_ends0 places).ok 4 := ok_word 13 st_taken st_base 1 (ok_word 13 st_put st_base 0 (ok_set st_all places (ok_set st_one 1 (ok_mk []))))

theorem no_Words (places : Int) (hr : ¬ (1 ≤ places ∧ places ≤ 8)) : Spec Try.prog GV 31 [SV.i places] [] (fun r ho => r = SV.tup [.d .nils, SV.i 2] ∧ ho = []) := by
  refine start 10 0 Try.func31 rfl rfl rfl rfl ?_
  refine r1 ?_
  refine s1 2 0 1 rfl rfl rfl rfl rfl rfl trivial ?_
  refine s1 3 8 2 rfl rfl rfl rfl rfl rfl trivial ?_
  refine e1 16 rfl ?_
  refine keep [0] rfl ?_
  refine W_seq ?_
  refine r1 ?_
  refine s1 4 16 1 rfl rfl rfl rfl rfl rfl trivial ?_
  refine c1 (may_any places) [] [] 5 24 2 rfl rfl rfl rfl rfl rfl rfl rfl Try.func61 rfl rfl rfl rfl trivial rfl rfl ?_
  refine s1 6 32 3 rfl rfl rfl rfl rfl rfl trivial ?_
  refine e1 40 rfl ?_
  refine keep [0, 6] rfl ?_
  refine q1 rfl (fun hc1 => ?_) (fun hc1 => ?_)
  · skip
    try simp only [decide_eq_true_eq, decide_eq_false_iff_not, Bool.not_eq_true', Bool.not_eq_false', beq_iff_eq, bne_iff_ne, beq_eq_false_iff_ne, Bool.and_eq_true, Bool.or_eq_true, Bool.and_eq_false_iff, Bool.or_eq_false_iff, ge_iff_le, gt_iff_lt, Int.not_lt, Int.not_le, ne_eq, Decidable.not_not, bne_eq_false_iff_eq] at hc1
    refine r1 ?_
    refine s1 2 40 1 rfl rfl rfl rfl rfl rfl trivial ?_
    refine s1 3 48 2 rfl rfl rfl rfl rfl rfl trivial ?_
    refine e1 56 rfl ?_
    refine keep [2, 3] rfl ?_
    refine W_ret ?_
    refine tr ?_
    exact out2 2 3 (.d .nils) (SV.i 2) (π := []) (hout := []) Try.results31 rfl rfl rfl rfl rfl rfl trivial ⟨rfl, rfl⟩
  · skip
    exfalso; simp at hc1; omega

theorem no_Put (places : Int) (hr : ¬ (1 ≤ places ∧ places ≤ 8)) : Spec Try.prog GV 32 [SV.i places] [] (fun r ho => r = SV.tup [.d .nils, SV.i 2] ∧ ho = []) := by
  refine start 27 0 Try.func32 rfl rfl rfl rfl ?_
  refine r1 ?_
  refine s1 2 0 1 rfl rfl rfl rfl rfl rfl trivial ?_
  refine s1 3 8 2 rfl rfl rfl rfl rfl rfl trivial ?_
  refine e1 16 rfl ?_
  refine keep [0] rfl ?_
  refine W_seq ?_
  refine r1 ?_
  refine s1 5 16 1 rfl rfl rfl rfl rfl rfl trivial ?_
  refine c1 (may_any places) [] [] 6 24 2 rfl rfl rfl rfl rfl rfl rfl rfl Try.func61 rfl rfl rfl rfl trivial rfl rfl ?_
  refine s1 7 32 3 rfl rfl rfl rfl rfl rfl trivial ?_
  refine e1 40 rfl ?_
  refine keep [0, 7] rfl ?_
  refine q1 rfl (fun hc1 => ?_) (fun hc1 => ?_)
  · skip
    try simp only [decide_eq_true_eq, decide_eq_false_iff_not, Bool.not_eq_true', Bool.not_eq_false', beq_iff_eq, bne_iff_ne, beq_eq_false_iff_ne, Bool.and_eq_true, Bool.or_eq_true, Bool.and_eq_false_iff, Bool.or_eq_false_iff, ge_iff_le, gt_iff_lt, Int.not_lt, Int.not_le, ne_eq, Decidable.not_not, bne_eq_false_iff_eq] at hc1
    refine r1 ?_
    refine s1 2 40 1 rfl rfl rfl rfl rfl rfl trivial ?_
    refine s1 3 48 2 rfl rfl rfl rfl rfl rfl trivial ?_
    refine e1 56 rfl ?_
    refine keep [2, 3] rfl ?_
    refine W_ret ?_
    refine tr ?_
    exact out2 2 3 (.d .nils) (SV.i 2) (π := []) (hout := []) Try.results32 rfl rfl rfl rfl rfl rfl trivial ⟨rfl, rfl⟩
  · skip
    exfalso; simp at hc1; omega

theorem no_Take (places : Int) (hr : ¬ (1 ≤ places ∧ places ≤ 8)) : Spec Try.prog GV 33 [SV.i places] [] (fun r ho => r = SV.tup [.d .nils, SV.i 2] ∧ ho = []) := by
  refine start 26 0 Try.func33 rfl rfl rfl rfl ?_
  refine r1 ?_
  refine s1 2 0 1 rfl rfl rfl rfl rfl rfl trivial ?_
  refine s1 3 8 2 rfl rfl rfl rfl rfl rfl trivial ?_
  refine e1 16 rfl ?_
  refine keep [0] rfl ?_
  refine W_seq ?_
  refine r1 ?_
  refine s1 5 16 1 rfl rfl rfl rfl rfl rfl trivial ?_
  refine c1 (may_any places) [] [] 6 24 2 rfl rfl rfl rfl rfl rfl rfl rfl Try.func61 rfl rfl rfl rfl trivial rfl rfl ?_
  refine s1 7 32 3 rfl rfl rfl rfl rfl rfl trivial ?_
  refine e1 40 rfl ?_
  refine keep [0, 7] rfl ?_
  refine q1 rfl (fun hc1 => ?_) (fun hc1 => ?_)
  · skip
    try simp only [decide_eq_true_eq, decide_eq_false_iff_not, Bool.not_eq_true', Bool.not_eq_false', beq_iff_eq, bne_iff_ne, beq_eq_false_iff_ne, Bool.and_eq_true, Bool.or_eq_true, Bool.and_eq_false_iff, Bool.or_eq_false_iff, ge_iff_le, gt_iff_lt, Int.not_lt, Int.not_le, ne_eq, Decidable.not_not, bne_eq_false_iff_eq] at hc1
    refine r1 ?_
    refine s1 2 40 1 rfl rfl rfl rfl rfl rfl trivial ?_
    refine s1 3 48 2 rfl rfl rfl rfl rfl rfl trivial ?_
    refine e1 56 rfl ?_
    refine keep [2, 3] rfl ?_
    refine W_ret ?_
    refine tr ?_
    exact out2 2 3 (.d .nils) (SV.i 2) (π := []) (hout := []) Try.results33 rfl rfl rfl rfl rfl rfl trivial ⟨rfl, rfl⟩
  · skip
    exfalso; simp at hc1; omega

theorem yes_Words (places : Int) (hr : 1 ≤ places ∧ places ≤ 8) : Spec Try.prog GV 31 [SV.i places] [] (fun r ho => r = SV.tup [.sl 0 0 (2 + places).toNat, SV.i 0] ∧ ho = [none]) := by
  refine start 10 0 Try.func31 rfl rfl rfl rfl ?_
  refine r1 ?_
  refine s1 2 0 1 rfl rfl rfl rfl rfl rfl trivial ?_
  refine s1 3 8 2 rfl rfl rfl rfl rfl rfl trivial ?_
  refine e1 16 rfl ?_
  refine keep [0] rfl ?_
  refine W_seq ?_
  refine r1 ?_
  refine s1 4 16 1 rfl rfl rfl rfl rfl rfl trivial ?_
  refine c1 (may_any places) [] [] 5 24 2 rfl rfl rfl rfl rfl rfl rfl rfl Try.func61 rfl rfl rfl rfl trivial rfl rfl ?_
  refine s1 6 32 3 rfl rfl rfl rfl rfl rfl trivial ?_
  refine e1 40 rfl ?_
  refine keep [0, 6] rfl ?_
  refine q1 rfl (fun hc1 => ?_) (fun hc1 => ?_)
  · skip
    exfalso; simp at hc1; omega
  · skip
    try simp only [decide_eq_true_eq, decide_eq_false_iff_not, Bool.not_eq_true', Bool.not_eq_false', beq_iff_eq, bne_iff_ne, beq_eq_false_iff_ne, Bool.and_eq_true, Bool.or_eq_true, Bool.and_eq_false_iff, Bool.or_eq_false_iff, ge_iff_le, gt_iff_lt, Int.not_lt, Int.not_le, ne_eq, Decidable.not_not, bne_eq_false_iff_eq] at hc1
    refine W_skip ?_
    refine tn ?_
    refine r1 ?_
    refine s1 7 40 1 rfl rfl rfl rfl rfl rfl trivial ?_
    refine sA 8 48 2 rfl rfl rfl rfl rfl rfl rfl rfl rfl (by unfold inRange; omega) ?_
    refine s1 9 56 3 rfl rfl rfl rfl rfl rfl (by refine ⟨?_, rfl, ?_, ?_⟩; omega; (show _ * 8 ≤ (140737488355328 : Int); omega); omega) ?_
    refine s1 2 64 4 rfl rfl rfl rfl rfl rfl trivial ?_
    refine s1 3 72 5 rfl rfl rfl rfl rfl rfl trivial ?_
    refine e1 80 rfl ?_
    refine keep [2, 3] rfl ?_
    refine W_ret ?_
    exact out2 2 3 (.sl 0 0 (2 + places).toNat) (SV.i 0) (π := [56]) (hout := [none]) Try.results31 rfl rfl rfl rfl rfl rfl trivial ⟨rfl, rfl⟩

def B_Put (places : Int) : Bld := (((((((((((B_ends places [st_v]).doo 4 st_n st_put st_taken).doo 8 st_full st_n st_all).iff 11 st_full st_no).doo 7 st_at st_put st_all).word 14 st_v st_at 2).doo 3 st_put st_put st_one).word 14 st_put st_base 0).tell st_one).done.mark st_no).tell st_base)
theorem yes_Put (places : Int) (hr : 1 ≤ places ∧ places ≤ 8) : Spec Try.prog GV 32 [SV.i places] [] (fun r ho => r = SV.tup [.sl 0 0 (fin (B_Put places)).length, SV.i 0] ∧ ho = [some (.rows 42 5 (fin (B_Put places)).length (insF (fin (B_Put places))))]) := by
  refine start 27 0 Try.func32 rfl rfl rfl rfl ?_
  refine r1 ?_
  refine s1 2 0 1 rfl rfl rfl rfl rfl rfl trivial ?_
  refine s1 3 8 2 rfl rfl rfl rfl rfl rfl trivial ?_
  refine e1 16 rfl ?_
  refine keep [0] rfl ?_
  refine W_seq ?_
  refine r1 ?_
  refine s1 5 16 1 rfl rfl rfl rfl rfl rfl trivial ?_
  refine c1 (may_any places) [] [] 6 24 2 rfl rfl rfl rfl rfl rfl rfl rfl Try.func61 rfl rfl rfl rfl trivial rfl rfl ?_
  refine s1 7 32 3 rfl rfl rfl rfl rfl rfl trivial ?_
  refine e1 40 rfl ?_
  refine keep [0, 7] rfl ?_
  refine q1 rfl (fun hc1 => ?_) (fun hc1 => ?_)
  · skip
    exfalso; simp at hc1; omega
  · skip
    try simp only [decide_eq_true_eq, decide_eq_false_iff_not, Bool.not_eq_true', Bool.not_eq_false', beq_iff_eq, bne_iff_ne, beq_eq_false_iff_ne, Bool.and_eq_true, Bool.or_eq_true, Bool.and_eq_false_iff, Bool.or_eq_false_iff, ge_iff_le, gt_iff_lt, Int.not_lt, Int.not_le, ne_eq, Decidable.not_not, bne_eq_false_iff_eq] at hc1
    refine W_skip ?_
    refine tn ?_
    refine r1 ?_
    refine s1 8 40 1 rfl rfl rfl rfl rfl rfl trivial ?_
    refine sLit 1 (strsF [st_v]) 9 48 2 rfl rfl rfl rfl rfl rfl rfl rfl rfl (by intro i c hi hc; obtain rfl : i = 0 := (by omega); obtain rfl : c = 0 := (by omega); rfl) ?_
    refine c1 (give_ends places [st_v] (by decide)) [] [56, 57, 58, 59, 60] 10 56 3 rfl rfl rfl rfl rfl rfl rfl rfl Try.func62 rfl rfl rfl rfl trivial rfl rfl ?_
    have hb1 := okb_ends places [st_v]
    refine c1 (doo_any (B_ends places [st_v]) 4 st_n st_put st_taken hb1 (by decide)) [56, 57, 58, 59, 60] [56, 57, 58, 59, 60, 64] 11 64 4 rfl rfl rfl rfl rfl rfl rfl rfl Try.func54 rfl rfl rfl rfl ⟨rfl, rfl, rfl, rfl, rfl, trivial⟩ rfl rfl ?_
    have hb2 := ok_doo 4 st_n st_put st_taken hb1
    refine c1 (doo_any ((B_ends places [st_v]).doo 4 st_n st_put st_taken) 8 st_full st_n st_all hb2 (by decide)) [56, 64, 58, 59, 60] [56, 64, 58, 59, 60, 72] 12 72 5 rfl rfl rfl rfl rfl rfl rfl rfl Try.func54 rfl rfl rfl rfl ⟨rfl, rfl, rfl, rfl, rfl, trivial⟩ rfl rfl ?_
    have hb3 := ok_doo 8 st_full st_n st_all hb2
    refine c1 (iff_any (((B_ends places [st_v]).doo 4 st_n st_put st_taken).doo 8 st_full st_n st_all) 11 st_full st_no hb3 (by decide)) [56, 72, 58, 59, 60] [56, 72, 58, 59, 60, 80, 81] 13 80 6 rfl rfl rfl rfl rfl rfl rfl rfl Try.func55 rfl rfl rfl rfl ⟨rfl, rfl, rfl, rfl, rfl, trivial⟩ rfl rfl ?_
    have hb4 := ok_iff 11 st_full st_no hb3
    refine s1 4 88 7 rfl rfl rfl rfl rfl rfl trivial ?_
    refine e1 96 rfl ?_
    refine keep [4] rfl ?_
    refine r1 ?_
    refine s1 14 96 1 rfl rfl rfl rfl rfl rfl trivial ?_
    refine c1 (doo_any ((((B_ends places [st_v]).doo 4 st_n st_put st_taken).doo 8 st_full st_n st_all).iff 11 st_full st_no) 7 st_at st_put st_all hb4 (by decide)) [56, 81, 58, 80, 60] [56, 81, 58, 80, 60, 104] 15 104 2 rfl rfl rfl rfl rfl rfl rfl rfl Try.func54 rfl rfl rfl rfl ⟨rfl, rfl, rfl, rfl, rfl, trivial⟩ rfl rfl ?_
    have hb5 := ok_doo 7 st_at st_put st_all hb4
    refine c1 (word_any (((((B_ends places [st_v]).doo 4 st_n st_put st_taken).doo 8 st_full st_n st_all).iff 11 st_full st_no).doo 7 st_at st_put st_all) 14 st_v st_at 2 hb5 (by decide)) [56, 104, 58, 80, 60] [56, 104, 58, 80, 60, 112] 16 112 3 rfl rfl rfl rfl rfl rfl rfl rfl Try.func52 rfl rfl rfl rfl ⟨rfl, rfl, rfl, rfl, rfl, trivial⟩ rfl rfl ?_
    have hb6 := ok_word 14 st_v st_at 2 hb5
    refine c1 (doo_any ((((((B_ends places [st_v]).doo 4 st_n st_put st_taken).doo 8 st_full st_n st_all).iff 11 st_full st_no).doo 7 st_at st_put st_all).word 14 st_v st_at 2) 3 st_put st_put st_one hb6 (by decide)) [56, 112, 58, 80, 60] [56, 112, 58, 80, 60, 120] 17 120 4 rfl rfl rfl rfl rfl rfl rfl rfl Try.func54 rfl rfl rfl rfl ⟨rfl, rfl, rfl, rfl, rfl, trivial⟩ rfl rfl ?_
    have hb7 := ok_doo 3 st_put st_put st_one hb6
    refine c1 (word_any (((((((B_ends places [st_v]).doo 4 st_n st_put st_taken).doo 8 st_full st_n st_all).iff 11 st_full st_no).doo 7 st_at st_put st_all).word 14 st_v st_at 2).doo 3 st_put st_put st_one) 14 st_put st_base 0 hb7 (by decide)) [56, 120, 58, 80, 60] [56, 120, 58, 80, 60, 128] 18 128 5 rfl rfl rfl rfl rfl rfl rfl rfl Try.func52 rfl rfl rfl rfl ⟨rfl, rfl, rfl, rfl, rfl, trivial⟩ rfl rfl ?_
    have hb8 := ok_word 14 st_put st_base 0 hb7
    refine e1 136 rfl ?_
    refine keep [4] rfl ?_
    refine r1 ?_
    refine s1 19 136 1 rfl rfl rfl rfl rfl rfl trivial ?_
    refine sLit 1 (strsF [st_one]) 20 144 2 rfl rfl rfl rfl rfl rfl rfl rfl rfl (by intro i c hi hc; obtain rfl : i = 0 := (by omega); obtain rfl : c = 0 := (by omega); rfl) ?_
    refine c1 (tell_any ((((((((B_ends places [st_v]).doo 4 st_n st_put st_taken).doo 8 st_full st_n st_all).iff 11 st_full st_no).doo 7 st_at st_put st_all).word 14 st_v st_at 2).doo 3 st_put st_put st_one).word 14 st_put st_base 0) st_one hb8 (by decide)) [56, 128, 58, 80, 60] [56, 128, 58, 80, 60, 152] 21 152 3 rfl rfl rfl rfl rfl rfl rfl rfl Try.func48 rfl rfl rfl rfl ⟨rfl, rfl, rfl, rfl, rfl, trivial⟩ rfl rfl ?_
    have hb9 := ok_tell st_one hb8
    refine c1 (done_any (((((((((B_ends places [st_v]).doo 4 st_n st_put st_taken).doo 8 st_full st_n st_all).iff 11 st_full st_no).doo 7 st_at st_put st_all).word 14 st_v st_at 2).doo 3 st_put st_put st_one).word 14 st_put st_base 0).tell st_one)  hb9 (by decide)) [56, 152, 58, 80, 60] [56, 152, 58, 80, 60, 160] 22 160 4 rfl rfl rfl rfl rfl rfl rfl rfl Try.func63 rfl rfl rfl rfl ⟨rfl, rfl, rfl, rfl, rfl, trivial⟩ rfl rfl ?_
    have hb10 := ok_done  hb9
    refine c1 (mark_any (((((((((B_ends places [st_v]).doo 4 st_n st_put st_taken).doo 8 st_full st_n st_all).iff 11 st_full st_no).doo 7 st_at st_put st_all).word 14 st_v st_at 2).doo 3 st_put st_put st_one).word 14 st_put st_base 0).tell st_one).done st_no hb10 (by decide)) [56, 160, 58, 80, 60] [56, 160, 58, 80, 60] 23 168 5 rfl rfl rfl rfl rfl rfl rfl rfl Try.func53 rfl rfl rfl rfl ⟨rfl, rfl, rfl, rfl, rfl, trivial⟩ rfl rfl ?_
    have hb11 := ok_mark st_no hb10
    refine sLit 1 (strsF [st_base]) 24 176 6 rfl rfl rfl rfl rfl rfl rfl rfl rfl (by intro i c hi hc; obtain rfl : i = 0 := (by omega); obtain rfl : c = 0 := (by omega); rfl) ?_
    refine c1 (tell_any ((((((((((B_ends places [st_v]).doo 4 st_n st_put st_taken).doo 8 st_full st_n st_all).iff 11 st_full st_no).doo 7 st_at st_put st_all).word 14 st_v st_at 2).doo 3 st_put st_put st_one).word 14 st_put st_base 0).tell st_one).done.mark st_no) st_base hb11 (by decide)) [56, 160, 58, 80, 60] [56, 160, 58, 80, 60, 184] 25 184 7 rfl rfl rfl rfl rfl rfl rfl rfl Try.func48 rfl rfl rfl rfl ⟨rfl, rfl, rfl, rfl, rfl, trivial⟩ rfl rfl ?_
    have hb12 := ok_tell st_base hb11
    refine c1 (ops_any (((((((((((B_ends places [st_v]).doo 4 st_n st_put st_taken).doo 8 st_full st_n st_all).iff 11 st_full st_no).doo 7 st_at st_put st_all).word 14 st_v st_at 2).doo 3 st_put st_put st_one).word 14 st_put st_base 0).tell st_one).done.mark st_no).tell st_base) hb12 (by decide)) [56, 184, 58, 80, 60] [56, 184, 58, 80, 60] 26 192 8 rfl rfl rfl rfl rfl rfl rfl rfl Try.func49 rfl rfl rfl rfl ⟨rfl, rfl, rfl, rfl, rfl, trivial⟩ rfl rfl ?_
    refine s1 2 200 9 rfl rfl rfl rfl rfl rfl trivial ?_
    refine s1 3 208 10 rfl rfl rfl rfl rfl rfl trivial ?_
    refine e1 216 rfl ?_
    refine keep [2, 3] rfl ?_
    refine W_ret ?_
    exact out2 2 3 (.sl 0 0 (fin (B_Put places)).length) (SV.i 0) (π := [184]) (hout := [some (.rows 42 5 (fin (B_Put places)).length (insF (fin (B_Put places))))]) Try.results32 rfl rfl rfl rfl rfl rfl ⟨rfl, trivial⟩ ⟨rfl, rfl⟩

theorem ok_Put {places : Int} (h : 1 ≤ places ∧ places ≤ 8) : mayB (fin (B_Put places)) = true ∧ 0 < (fin (B_Put places)).length ∧ (fin (B_Put places)).length ≤ 1000 := by
  obtain rfl | rfl | rfl | rfl | rfl | rfl | rfl | rfl : places = 1 ∨ places = 2 ∨ places = 3 ∨ places = 4 ∨ places = 5 ∨ places = 6 ∨ places = 7 ∨ places = 8 := (by omega)
  all_goals decide +kernel

def B_Take (places : Int) : Bld := (((((((((((B_ends0 places).doo 8 st_none st_put st_taken).iff 11 st_none st_no).doo 7 st_at st_taken st_all).word 13 st_v st_at 2).doo 3 st_taken st_taken st_one).word 14 st_taken st_base 1).tell st_v).done.mark st_no).set st_v (-1)).tell st_v)
theorem yes_Take (places : Int) (hr : 1 ≤ places ∧ places ≤ 8) : Spec Try.prog GV 33 [SV.i places] [] (fun r ho => r = SV.tup [.sl 0 0 (fin (B_Take places)).length, SV.i 0] ∧ ho = [some (.rows 42 5 (fin (B_Take places)).length (insF (fin (B_Take places))))]) := by
  refine start 26 0 Try.func33 rfl rfl rfl rfl ?_
  refine r1 ?_
  refine s1 2 0 1 rfl rfl rfl rfl rfl rfl trivial ?_
  refine s1 3 8 2 rfl rfl rfl rfl rfl rfl trivial ?_
  refine e1 16 rfl ?_
  refine keep [0] rfl ?_
  refine W_seq ?_
  refine r1 ?_
  refine s1 5 16 1 rfl rfl rfl rfl rfl rfl trivial ?_
  refine c1 (may_any places) [] [] 6 24 2 rfl rfl rfl rfl rfl rfl rfl rfl Try.func61 rfl rfl rfl rfl trivial rfl rfl ?_
  refine s1 7 32 3 rfl rfl rfl rfl rfl rfl trivial ?_
  refine e1 40 rfl ?_
  refine keep [0, 7] rfl ?_
  refine q1 rfl (fun hc1 => ?_) (fun hc1 => ?_)
  · skip
    exfalso; simp at hc1; omega
  · skip
    try simp only [decide_eq_true_eq, decide_eq_false_iff_not, Bool.not_eq_true', Bool.not_eq_false', beq_iff_eq, bne_iff_ne, beq_eq_false_iff_ne, Bool.and_eq_true, Bool.or_eq_true, Bool.and_eq_false_iff, Bool.or_eq_false_iff, ge_iff_le, gt_iff_lt, Int.not_lt, Int.not_le, ne_eq, Decidable.not_not, bne_eq_false_iff_eq] at hc1
    refine W_skip ?_
    refine tn ?_
    refine r1 ?_
    refine s1 8 40 1 rfl rfl rfl rfl rfl rfl trivial ?_
    refine c1 (give_ends0 places) [] [48, 49, 50, 51, 52] 9 48 2 rfl rfl rfl rfl rfl rfl rfl rfl Try.func62 rfl rfl rfl rfl trivial rfl rfl ?_
    have hb1 := okb_ends0 places
    refine c1 (doo_any (B_ends0 places) 8 st_none st_put st_taken hb1 (by decide)) [48, 49, 50, 51, 52] [48, 49, 50, 51, 52, 56] 10 56 3 rfl rfl rfl rfl rfl rfl rfl rfl Try.func54 rfl rfl rfl rfl ⟨rfl, rfl, rfl, rfl, rfl, trivial⟩ rfl rfl ?_
    have hb2 := ok_doo 8 st_none st_put st_taken hb1
    refine c1 (iff_any ((B_ends0 places).doo 8 st_none st_put st_taken) 11 st_none st_no hb2 (by decide)) [48, 56, 50, 51, 52] [48, 56, 50, 51, 52, 64, 65] 11 64 4 rfl rfl rfl rfl rfl rfl rfl rfl Try.func55 rfl rfl rfl rfl ⟨rfl, rfl, rfl, rfl, rfl, trivial⟩ rfl rfl ?_
    have hb3 := ok_iff 11 st_none st_no hb2
    refine s1 4 72 5 rfl rfl rfl rfl rfl rfl trivial ?_
    refine e1 80 rfl ?_
    refine keep [4] rfl ?_
    refine r1 ?_
    refine s1 12 80 1 rfl rfl rfl rfl rfl rfl trivial ?_
    refine c1 (doo_any (((B_ends0 places).doo 8 st_none st_put st_taken).iff 11 st_none st_no) 7 st_at st_taken st_all hb3 (by decide)) [48, 65, 50, 64, 52] [48, 65, 50, 64, 52, 88] 13 88 2 rfl rfl rfl rfl rfl rfl rfl rfl Try.func54 rfl rfl rfl rfl ⟨rfl, rfl, rfl, rfl, rfl, trivial⟩ rfl rfl ?_
    have hb4 := ok_doo 7 st_at st_taken st_all hb3
    refine c1 (word_any ((((B_ends0 places).doo 8 st_none st_put st_taken).iff 11 st_none st_no).doo 7 st_at st_taken st_all) 13 st_v st_at 2 hb4 (by decide)) [48, 88, 50, 64, 52] [48, 88, 50, 64, 52, 96] 14 96 3 rfl rfl rfl rfl rfl rfl rfl rfl Try.func52 rfl rfl rfl rfl ⟨rfl, rfl, rfl, rfl, rfl, trivial⟩ rfl rfl ?_
    have hb5 := ok_word 13 st_v st_at 2 hb4
    refine c1 (doo_any (((((B_ends0 places).doo 8 st_none st_put st_taken).iff 11 st_none st_no).doo 7 st_at st_taken st_all).word 13 st_v st_at 2) 3 st_taken st_taken st_one hb5 (by decide)) [48, 96, 50, 64, 52] [48, 96, 50, 64, 52, 104] 15 104 4 rfl rfl rfl rfl rfl rfl rfl rfl Try.func54 rfl rfl rfl rfl ⟨rfl, rfl, rfl, rfl, rfl, trivial⟩ rfl rfl ?_
    have hb6 := ok_doo 3 st_taken st_taken st_one hb5
    refine c1 (word_any ((((((B_ends0 places).doo 8 st_none st_put st_taken).iff 11 st_none st_no).doo 7 st_at st_taken st_all).word 13 st_v st_at 2).doo 3 st_taken st_taken st_one) 14 st_taken st_base 1 hb6 (by decide)) [48, 104, 50, 64, 52] [48, 104, 50, 64, 52, 112] 16 112 5 rfl rfl rfl rfl rfl rfl rfl rfl Try.func52 rfl rfl rfl rfl ⟨rfl, rfl, rfl, rfl, rfl, trivial⟩ rfl rfl ?_
    have hb7 := ok_word 14 st_taken st_base 1 hb6
    refine e1 120 rfl ?_
    refine keep [4] rfl ?_
    refine r1 ?_
    refine s1 17 120 1 rfl rfl rfl rfl rfl rfl trivial ?_
    refine sLit 1 (strsF [st_v]) 18 128 2 rfl rfl rfl rfl rfl rfl rfl rfl rfl (by intro i c hi hc; obtain rfl : i = 0 := (by omega); obtain rfl : c = 0 := (by omega); rfl) ?_
    refine c1 (tell_any (((((((B_ends0 places).doo 8 st_none st_put st_taken).iff 11 st_none st_no).doo 7 st_at st_taken st_all).word 13 st_v st_at 2).doo 3 st_taken st_taken st_one).word 14 st_taken st_base 1) st_v hb7 (by decide)) [48, 112, 50, 64, 52] [48, 112, 50, 64, 52, 136] 19 136 3 rfl rfl rfl rfl rfl rfl rfl rfl Try.func48 rfl rfl rfl rfl ⟨rfl, rfl, rfl, rfl, rfl, trivial⟩ rfl rfl ?_
    have hb8 := ok_tell st_v hb7
    refine c1 (done_any ((((((((B_ends0 places).doo 8 st_none st_put st_taken).iff 11 st_none st_no).doo 7 st_at st_taken st_all).word 13 st_v st_at 2).doo 3 st_taken st_taken st_one).word 14 st_taken st_base 1).tell st_v)  hb8 (by decide)) [48, 136, 50, 64, 52] [48, 136, 50, 64, 52, 144] 20 144 4 rfl rfl rfl rfl rfl rfl rfl rfl Try.func63 rfl rfl rfl rfl ⟨rfl, rfl, rfl, rfl, rfl, trivial⟩ rfl rfl ?_
    have hb9 := ok_done  hb8
    refine c1 (mark_any ((((((((B_ends0 places).doo 8 st_none st_put st_taken).iff 11 st_none st_no).doo 7 st_at st_taken st_all).word 13 st_v st_at 2).doo 3 st_taken st_taken st_one).word 14 st_taken st_base 1).tell st_v).done st_no hb9 (by decide)) [48, 144, 50, 64, 52] [48, 144, 50, 64, 52] 21 152 5 rfl rfl rfl rfl rfl rfl rfl rfl Try.func53 rfl rfl rfl rfl ⟨rfl, rfl, rfl, rfl, rfl, trivial⟩ rfl rfl ?_
    have hb10 := ok_mark st_no hb9
    refine c1 (set_any (((((((((B_ends0 places).doo 8 st_none st_put st_taken).iff 11 st_none st_no).doo 7 st_at st_taken st_all).word 13 st_v st_at 2).doo 3 st_taken st_taken st_one).word 14 st_taken st_base 1).tell st_v).done.mark st_no) st_v (-1) hb10 (by decide)) [48, 144, 50, 64, 52] [48, 144, 50, 64, 52, 160] 22 160 6 rfl rfl rfl rfl rfl rfl rfl rfl Try.func46 rfl rfl rfl rfl ⟨rfl, rfl, rfl, rfl, rfl, trivial⟩ rfl rfl ?_
    have hb11 := ok_set st_v (-1) hb10
    refine sLit 1 (strsF [st_v]) 23 168 7 rfl rfl rfl rfl rfl rfl rfl rfl rfl (by intro i c hi hc; obtain rfl : i = 0 := (by omega); obtain rfl : c = 0 := (by omega); rfl) ?_
    refine c1 (tell_any ((((((((((B_ends0 places).doo 8 st_none st_put st_taken).iff 11 st_none st_no).doo 7 st_at st_taken st_all).word 13 st_v st_at 2).doo 3 st_taken st_taken st_one).word 14 st_taken st_base 1).tell st_v).done.mark st_no).set st_v (-1)) st_v hb11 (by decide)) [48, 160, 50, 64, 52] [48, 160, 50, 64, 52, 176] 24 176 8 rfl rfl rfl rfl rfl rfl rfl rfl Try.func48 rfl rfl rfl rfl ⟨rfl, rfl, rfl, rfl, rfl, trivial⟩ rfl rfl ?_
    have hb12 := ok_tell st_v hb11
    refine c1 (ops_any (((((((((((B_ends0 places).doo 8 st_none st_put st_taken).iff 11 st_none st_no).doo 7 st_at st_taken st_all).word 13 st_v st_at 2).doo 3 st_taken st_taken st_one).word 14 st_taken st_base 1).tell st_v).done.mark st_no).set st_v (-1)).tell st_v) hb12 (by decide)) [48, 176, 50, 64, 52] [48, 176, 50, 64, 52] 25 184 9 rfl rfl rfl rfl rfl rfl rfl rfl Try.func49 rfl rfl rfl rfl ⟨rfl, rfl, rfl, rfl, rfl, trivial⟩ rfl rfl ?_
    refine s1 2 192 10 rfl rfl rfl rfl rfl rfl trivial ?_
    refine s1 3 200 11 rfl rfl rfl rfl rfl rfl trivial ?_
    refine e1 208 rfl ?_
    refine keep [2, 3] rfl ?_
    refine W_ret ?_
    exact out2 2 3 (.sl 0 0 (fin (B_Take places)).length) (SV.i 0) (π := [176]) (hout := [some (.rows 42 5 (fin (B_Take places)).length (insF (fin (B_Take places))))]) Try.results33 rfl rfl rfl rfl rfl rfl ⟨rfl, trivial⟩ ⟨rfl, rfl⟩

theorem ok_Take {places : Int} (h : 1 ≤ places ∧ places ≤ 8) : mayB (fin (B_Take places)) = true ∧ 0 < (fin (B_Take places)).length ∧ (fin (B_Take places)).length ≤ 1000 := by
  obtain rfl | rfl | rfl | rfl | rfl | rfl | rfl | rfl : places = 1 ∨ places = 2 ∨ places = 3 ∨ places = 4 ∨ places = 5 ∨ places = 6 ∨ places = 7 ∨ places = 8 := (by omega)
  all_goals decide +kernel

theorem law_yes (places : Int) (hr : 1 ≤ places ∧ places ≤ 8) : Spec Try.prog GV 9 [SV.i places] [] (fun r _ => r = SV.b true) := by
  refine start 93 0 Try.func9 rfl rfl rfl rfl ?_
  refine r1 ?_
  refine s1 2 0 1 rfl rfl rfl rfl rfl rfl trivial ?_
  refine e1 8 rfl ?_
  refine keep [0] rfl ?_
  refine r1 ?_
  refine s1 10 8 1 rfl rfl rfl rfl rfl rfl trivial ?_
  refine c1 (yes_Words places hr) [] [16] 11 16 2 rfl rfl rfl rfl rfl rfl rfl rfl Try.func31 rfl rfl rfl rfl trivial rfl rfl ?_
  refine s1 9 24 3 rfl rfl rfl rfl rfl rfl trivial ?_
  refine s1 12 32 4 rfl rfl rfl rfl rfl rfl trivial ?_
  refine s1 13 40 5 rfl rfl rfl rfl rfl rfl trivial ?_
  refine s1 3 48 6 rfl rfl rfl rfl rfl rfl trivial ?_
  refine s1 4 56 7 rfl rfl rfl rfl rfl rfl trivial ?_
  refine e1 64 rfl ?_
  refine keep [0, 3, 4] rfl ?_
  refine r1 ?_
  refine s1 15 64 1 rfl rfl rfl rfl rfl rfl trivial ?_
  refine c1 (yes_Put places hr) [] [72] 16 72 2 rfl rfl rfl rfl rfl rfl rfl rfl Try.func32 rfl rfl rfl rfl trivial rfl rfl ?_
  refine s1 14 80 3 rfl rfl rfl rfl rfl rfl trivial ?_
  refine s1 17 88 4 rfl rfl rfl rfl rfl rfl trivial ?_
  refine s1 18 96 5 rfl rfl rfl rfl rfl rfl trivial ?_
  refine s1 5 104 6 rfl rfl rfl rfl rfl rfl trivial ?_
  refine s1 6 112 7 rfl rfl rfl rfl rfl rfl trivial ?_
  refine e1 120 rfl ?_
  refine keep [0, 3, 4, 5, 6] rfl ?_
  refine r1 ?_
  refine s1 20 120 1 rfl rfl rfl rfl rfl rfl trivial ?_
  refine c1 (yes_Take places hr) [] [128] 21 128 2 rfl rfl rfl rfl rfl rfl rfl rfl Try.func33 rfl rfl rfl rfl trivial rfl rfl ?_
  refine s1 19 136 3 rfl rfl rfl rfl rfl rfl trivial ?_
  refine s1 22 144 4 rfl rfl rfl rfl rfl rfl trivial ?_
  refine s1 23 152 5 rfl rfl rfl rfl rfl rfl trivial ?_
  refine s1 7 160 6 rfl rfl rfl rfl rfl rfl trivial ?_
  refine s1 8 168 7 rfl rfl rfl rfl rfl rfl trivial ?_
  refine e1 176 rfl ?_
  refine keep [0, 3, 4, 5, 6, 7, 8] rfl ?_
  refine W_seq ?_
  refine r1 ?_
  refine s1 24 176 1 rfl rfl rfl rfl rfl rfl trivial ?_
  refine s1 25 184 2 rfl rfl rfl rfl rfl rfl (by first | trivial | omega | (simp only [List.length_map, List.length_append, List.length_cons, List.length_nil] at *; omega)) ?_
  refine s1 26 192 3 rfl rfl rfl rfl rfl rfl trivial ?_
  refine ask 26 rfl (fun hg4_26 => ?_) (fun hg4_26 => ?_)
  · skip
    try simp only [decide_eq_true_eq, decide_eq_false_iff_not, Bool.not_eq_true', Bool.not_eq_false', beq_iff_eq, bne_iff_ne, beq_eq_false_iff_ne, Bool.and_eq_true, Bool.or_eq_true, Bool.and_eq_false_iff, Bool.or_eq_false_iff, ge_iff_le, gt_iff_lt, Int.not_lt, Int.not_le, ne_eq, Decidable.not_not, bne_eq_false_iff_eq] at hg4_26
    refine g0 2 false 26 27 4 rfl rfl rfl rfl rfl rfl ?_
    refine g0 2 false 26 28 5 rfl rfl rfl rfl rfl rfl ?_
    refine s1 29 216 6 rfl rfl rfl rfl rfl rfl trivial ?_
    refine e1 224 rfl ?_
    refine keep [3, 4, 5, 6, 7, 8, 29] rfl ?_
    refine q1 rfl (fun hc4 => ?_) (fun hc4 => ?_)
    · skip
      exfalso; simp at hc4; omega
    · skip
      exact absurd hc4 (by decide)
  · skip
    try simp only [decide_eq_true_eq, decide_eq_false_iff_not, Bool.not_eq_true', Bool.not_eq_false', beq_iff_eq, bne_iff_ne, beq_eq_false_iff_ne, Bool.and_eq_true, Bool.or_eq_true, Bool.and_eq_false_iff, Bool.or_eq_false_iff, ge_iff_le, gt_iff_lt, Int.not_lt, Int.not_le, ne_eq, Decidable.not_not, bne_eq_false_iff_eq] at hg4_26
    refine g1 2 false 26 27 4 rfl rfl rfl rfl rfl ?_
    refine s1 27 200 4 rfl rfl rfl rfl rfl rfl trivial ?_
    refine g1 2 false 26 28 5 rfl rfl rfl rfl rfl ?_
    refine s1 28 208 5 rfl rfl rfl rfl rfl rfl (by first | trivial | omega | (simp only [List.length_map, List.length_append, List.length_cons, List.length_nil] at *; omega)) ?_
    refine s1 29 216 6 rfl rfl rfl rfl rfl rfl trivial ?_
    refine e1 224 rfl ?_
    refine keep [3, 4, 5, 6, 7, 8, 29] rfl ?_
    refine q1 rfl (fun hc4 => ?_) (fun hc4 => ?_)
    · skip
      exfalso; simp at hc4; omega
    · skip
      try simp only [decide_eq_true_eq, decide_eq_false_iff_not, Bool.not_eq_true', Bool.not_eq_false', beq_iff_eq, bne_iff_ne, beq_eq_false_iff_ne, Bool.and_eq_true, Bool.or_eq_true, Bool.and_eq_false_iff, Bool.or_eq_false_iff, ge_iff_le, gt_iff_lt, Int.not_lt, Int.not_le, ne_eq, Decidable.not_not, bne_eq_false_iff_eq] at hc4
      refine W_skip ?_
      refine tn ?_
      refine freeze 5 72 (fin (B_Put places)).length rfl rfl (Nat.le_refl _) ?_
      refine freeze 7 128 (fin (B_Take places)).length rfl rfl (Nat.le_refl _) ?_
      have ho0 := ok_Put hr
      have ho1 := ok_Take hr
      refine r1 ?_
      refine s1 55 224 1 rfl rfl rfl rfl rfl rfl trivial ?_
      refine s1 56 232 2 rfl rfl rfl rfl rfl rfl (by first | trivial | omega | (simp only [List.length_map, List.length_append, List.length_cons, List.length_nil] at *; omega)) ?_
      refine s1 57 240 3 rfl rfl rfl rfl rfl rfl trivial ?_
      refine ask 57 rfl (fun hg6_57 => ?_) (fun hg6_57 => ?_)
      · skip
        try simp only [decide_eq_true_eq, decide_eq_false_iff_not, Bool.not_eq_true', Bool.not_eq_false', beq_iff_eq, bne_iff_ne, beq_eq_false_iff_ne, Bool.and_eq_true, Bool.or_eq_true, Bool.and_eq_false_iff, Bool.or_eq_false_iff, ge_iff_le, gt_iff_lt, Int.not_lt, Int.not_le, ne_eq, Decidable.not_not, bne_eq_false_iff_eq] at hg6_57
        refine g1 2 true 57 58 4 rfl rfl rfl rfl rfl ?_
        refine s1 58 248 4 rfl rfl rfl rfl rfl rfl trivial ?_
        refine g1 2 true 57 59 5 rfl rfl rfl rfl rfl ?_
        refine s1 59 256 5 rfl rfl rfl rfl rfl rfl (by first | trivial | omega | (simp only [List.length_map, List.length_append, List.length_cons, List.length_nil] at *; omega)) ?_
        refine s1 60 264 6 rfl rfl rfl rfl rfl rfl trivial ?_
        refine s1 61 272 7 rfl rfl rfl rfl rfl rfl trivial ?_
        refine ask 61 rfl (fun hg6_61 => ?_) (fun hg6_61 => ?_)
        · skip
          try simp only [decide_eq_true_eq, decide_eq_false_iff_not, Bool.not_eq_true', Bool.not_eq_false', beq_iff_eq, bne_iff_ne, beq_eq_false_iff_ne, Bool.and_eq_true, Bool.or_eq_true, Bool.and_eq_false_iff, Bool.or_eq_false_iff, ge_iff_le, gt_iff_lt, Int.not_lt, Int.not_le, ne_eq, Decidable.not_not, bne_eq_false_iff_eq] at hg6_61
          refine g1 6 true 61 62 8 rfl rfl rfl rfl rfl ?_
          refine s1 62 280 8 rfl rfl rfl rfl rfl rfl trivial ?_
          refine g1 6 true 61 63 9 rfl rfl rfl rfl rfl ?_
          refine s1 63 288 9 rfl rfl rfl rfl rfl rfl (by first | trivial | omega | (simp only [List.length_map, List.length_append, List.length_cons, List.length_nil] at *; omega)) ?_
          refine s1 64 296 10 rfl rfl rfl rfl rfl rfl trivial ?_
          refine s1 65 304 11 rfl rfl rfl rfl rfl rfl trivial ?_
          refine ask 65 rfl (fun hg6_65 => ?_) (fun hg6_65 => ?_)
          · skip
            try simp only [decide_eq_true_eq, decide_eq_false_iff_not, Bool.not_eq_true', Bool.not_eq_false', beq_iff_eq, bne_iff_ne, beq_eq_false_iff_ne, Bool.and_eq_true, Bool.or_eq_true, Bool.and_eq_false_iff, Bool.or_eq_false_iff, ge_iff_le, gt_iff_lt, Int.not_lt, Int.not_le, ne_eq, Decidable.not_not, bne_eq_false_iff_eq] at hg6_65
            refine g1 10 true 65 66 12 rfl rfl rfl rfl rfl ?_
            refine s1 66 312 12 rfl rfl rfl rfl rfl rfl trivial ?_
            refine g1 10 true 65 67 13 rfl rfl rfl rfl rfl ?_
            refine s1 67 320 13 rfl rfl rfl rfl rfl rfl (by first | trivial | omega | (simp only [List.length_map, List.length_append, List.length_cons, List.length_nil] at *; omega)) ?_
            refine g1 10 true 65 68 14 rfl rfl rfl rfl rfl ?_
            refine s1 68 328 14 rfl rfl rfl rfl rfl rfl (by first | trivial | omega | (simp only [List.length_map, List.length_append, List.length_cons, List.length_nil] at *; omega)) ?_
            refine s1 69 336 15 rfl rfl rfl rfl rfl rfl trivial ?_
            refine s1 70 344 16 rfl rfl rfl rfl rfl rfl trivial ?_
            refine ask 70 rfl (fun hg6_70 => ?_) (fun hg6_70 => ?_)
            · skip
              try simp only [decide_eq_true_eq, decide_eq_false_iff_not, Bool.not_eq_true', Bool.not_eq_false', beq_iff_eq, bne_iff_ne, beq_eq_false_iff_ne, Bool.and_eq_true, Bool.or_eq_true, Bool.and_eq_false_iff, Bool.or_eq_false_iff, ge_iff_le, gt_iff_lt, Int.not_lt, Int.not_le, ne_eq, Decidable.not_not, bne_eq_false_iff_eq] at hg6_70
              refine g1 15 true 70 71 17 rfl rfl rfl rfl rfl ?_
              refine s1 71 352 17 rfl rfl rfl rfl rfl rfl trivial ?_
              refine g1 15 true 70 72 18 rfl rfl rfl rfl rfl ?_
              refine s1 72 360 18 rfl rfl rfl rfl rfl rfl (by first | trivial | omega | (simp only [List.length_map, List.length_append, List.length_cons, List.length_nil] at *; omega)) ?_
              refine g1 15 true 70 73 19 rfl rfl rfl rfl rfl ?_
              refine s1 73 368 19 rfl rfl rfl rfl rfl rfl (by first | trivial | omega | (simp only [List.length_map, List.length_append, List.length_cons, List.length_nil] at *; omega)) ?_
              refine s1 74 376 20 rfl rfl rfl rfl rfl rfl trivial ?_
              refine s1 75 384 21 rfl rfl rfl rfl rfl rfl trivial ?_
              refine ask 75 rfl (fun hg6_75 => ?_) (fun hg6_75 => ?_)
              · skip
                try simp only [decide_eq_true_eq, decide_eq_false_iff_not, Bool.not_eq_true', Bool.not_eq_false', beq_iff_eq, bne_iff_ne, beq_eq_false_iff_ne, Bool.and_eq_true, Bool.or_eq_true, Bool.and_eq_false_iff, Bool.or_eq_false_iff, ge_iff_le, gt_iff_lt, Int.not_lt, Int.not_le, ne_eq, Decidable.not_not, bne_eq_false_iff_eq] at hg6_75
                refine g1 20 true 75 76 22 rfl rfl rfl rfl rfl ?_
                refine s1 76 392 22 rfl rfl rfl rfl rfl rfl trivial ?_
                refine g1 20 true 75 77 23 rfl rfl rfl rfl rfl ?_
                refine s1 77 400 23 rfl rfl rfl rfl rfl rfl (by first | trivial | omega | (simp only [List.length_map, List.length_append, List.length_cons, List.length_nil] at *; omega)) ?_
                refine g1 20 true 75 78 24 rfl rfl rfl rfl rfl ?_
                refine s1 78 408 24 rfl rfl rfl rfl rfl rfl (by first | trivial | omega | (simp only [List.length_map, List.length_append, List.length_cons, List.length_nil] at *; omega)) ?_
                refine s1 79 416 25 rfl rfl rfl rfl rfl rfl trivial ?_
                refine s1 80 424 26 rfl rfl rfl rfl rfl rfl trivial ?_
                refine ask 80 rfl (fun hg6_80 => ?_) (fun hg6_80 => ?_)
                · skip
                  try simp only [decide_eq_true_eq, decide_eq_false_iff_not, Bool.not_eq_true', Bool.not_eq_false', beq_iff_eq, bne_iff_ne, beq_eq_false_iff_ne, Bool.and_eq_true, Bool.or_eq_true, Bool.and_eq_false_iff, Bool.or_eq_false_iff, ge_iff_le, gt_iff_lt, Int.not_lt, Int.not_le, ne_eq, Decidable.not_not, bne_eq_false_iff_eq] at hg6_80
                  refine g1 25 true 80 81 27 rfl rfl rfl rfl rfl ?_
                  refine s1 81 432 27 rfl rfl rfl rfl rfl rfl trivial ?_
                  refine g1 25 true 80 82 28 rfl rfl rfl rfl rfl ?_
                  refine s1 82 440 28 rfl rfl rfl rfl rfl rfl (by first | trivial | omega | (simp only [List.length_map, List.length_append, List.length_cons, List.length_nil] at *; omega)) ?_
                  refine g1 25 true 80 83 29 rfl rfl rfl rfl rfl ?_
                  refine s1 83 448 29 rfl rfl rfl rfl rfl rfl (by first | trivial | omega | (simp only [List.length_map, List.length_append, List.length_cons, List.length_nil] at *; omega)) ?_
                  refine s1 84 456 30 rfl rfl rfl rfl rfl rfl trivial ?_
                  refine s1 85 464 31 rfl rfl rfl rfl rfl rfl trivial ?_
                  refine ask 85 rfl (fun hg6_85 => ?_) (fun hg6_85 => ?_)
                  · skip
                    try simp only [decide_eq_true_eq, decide_eq_false_iff_not, Bool.not_eq_true', Bool.not_eq_false', beq_iff_eq, bne_iff_ne, beq_eq_false_iff_ne, Bool.and_eq_true, Bool.or_eq_true, Bool.and_eq_false_iff, Bool.or_eq_false_iff, ge_iff_le, gt_iff_lt, Int.not_lt, Int.not_le, ne_eq, Decidable.not_not, bne_eq_false_iff_eq] at hg6_85
                    refine g1 30 true 85 86 32 rfl rfl rfl rfl rfl ?_
                    refine s1 86 472 32 rfl rfl rfl rfl rfl rfl trivial ?_
                    refine g1 30 true 85 87 33 rfl rfl rfl rfl rfl ?_
                    refine c1 (codeMay_any (fin (B_Put places)) (Nat.le_trans (ok_Put hr).2.2 (by decide))) [] [] 87 480 33 rfl rfl rfl rfl rfl rfl rfl rfl Try.func15 rfl rfl rfl rfl trivial rfl rfl ?_
                    refine val 87 (SV.b true) rfl (by rw [(ok_Put hr).1]) ?_
                    refine s1 88 488 34 rfl rfl rfl rfl rfl rfl trivial ?_
                    refine s1 89 496 35 rfl rfl rfl rfl rfl rfl trivial ?_
                    refine ask 89 rfl (fun hg6_89 => ?_) (fun hg6_89 => ?_)
                    · skip
                      try simp only [decide_eq_true_eq, decide_eq_false_iff_not, Bool.not_eq_true', Bool.not_eq_false', beq_iff_eq, bne_iff_ne, beq_eq_false_iff_ne, Bool.and_eq_true, Bool.or_eq_true, Bool.and_eq_false_iff, Bool.or_eq_false_iff, ge_iff_le, gt_iff_lt, Int.not_lt, Int.not_le, ne_eq, Decidable.not_not, bne_eq_false_iff_eq] at hg6_89
                      refine g1 34 true 89 90 36 rfl rfl rfl rfl rfl ?_
                      refine s1 90 504 36 rfl rfl rfl rfl rfl rfl trivial ?_
                      refine g1 34 true 89 91 37 rfl rfl rfl rfl rfl ?_
                      refine c1 (codeMay_any (fin (B_Take places)) (Nat.le_trans (ok_Take hr).2.2 (by decide))) [] [] 91 512 37 rfl rfl rfl rfl rfl rfl rfl rfl Try.func15 rfl rfl rfl rfl trivial rfl rfl ?_
                      refine val 91 (SV.b true) rfl (by rw [(ok_Take hr).1]) ?_
                      refine s1 92 520 38 rfl rfl rfl rfl rfl rfl trivial ?_
                      refine s1 2 528 39 rfl rfl rfl rfl rfl rfl trivial ?_
                      refine e1 536 rfl ?_
                      refine keep [2] rfl ?_
                      refine W_ret ?_
                      exact out1 2 (SV.b true) (π := []) (hout := []) Try.results9 rfl (by first | rfl | (simp; done) | (simp [*]; done)) rfl rfl trivial rfl
                    · skip
                      try simp only [decide_eq_true_eq, decide_eq_false_iff_not, Bool.not_eq_true', Bool.not_eq_false', beq_iff_eq, bne_iff_ne, beq_eq_false_iff_ne, Bool.and_eq_true, Bool.or_eq_true, Bool.and_eq_false_iff, Bool.or_eq_false_iff, ge_iff_le, gt_iff_lt, Int.not_lt, Int.not_le, ne_eq, Decidable.not_not, bne_eq_false_iff_eq] at hg6_89
                      all_goals (exfalso; first | (simp at hg6_89; done) | (simp at hg6_89; omega) | (simp_all; omega) | omega)
                  · skip
                    try simp only [decide_eq_true_eq, decide_eq_false_iff_not, Bool.not_eq_true', Bool.not_eq_false', beq_iff_eq, bne_iff_ne, beq_eq_false_iff_ne, Bool.and_eq_true, Bool.or_eq_true, Bool.and_eq_false_iff, Bool.or_eq_false_iff, ge_iff_le, gt_iff_lt, Int.not_lt, Int.not_le, ne_eq, Decidable.not_not, bne_eq_false_iff_eq] at hg6_85
                    all_goals (exfalso; first | (simp at hg6_85; done) | (simp at hg6_85; omega) | (simp_all; omega) | omega)
                · skip
                  try simp only [decide_eq_true_eq, decide_eq_false_iff_not, Bool.not_eq_true', Bool.not_eq_false', beq_iff_eq, bne_iff_ne, beq_eq_false_iff_ne, Bool.and_eq_true, Bool.or_eq_true, Bool.and_eq_false_iff, Bool.or_eq_false_iff, ge_iff_le, gt_iff_lt, Int.not_lt, Int.not_le, ne_eq, Decidable.not_not, bne_eq_false_iff_eq] at hg6_80
                  all_goals (exfalso; first | (simp at hg6_80; done) | (simp at hg6_80; omega) | (simp_all; omega) | omega)
              · skip
                try simp only [decide_eq_true_eq, decide_eq_false_iff_not, Bool.not_eq_true', Bool.not_eq_false', beq_iff_eq, bne_iff_ne, beq_eq_false_iff_ne, Bool.and_eq_true, Bool.or_eq_true, Bool.and_eq_false_iff, Bool.or_eq_false_iff, ge_iff_le, gt_iff_lt, Int.not_lt, Int.not_le, ne_eq, Decidable.not_not, bne_eq_false_iff_eq] at hg6_75
                all_goals (exfalso; first | (simp at hg6_75; done) | (simp at hg6_75; omega) | (simp_all; omega) | omega)
            · skip
              try simp only [decide_eq_true_eq, decide_eq_false_iff_not, Bool.not_eq_true', Bool.not_eq_false', beq_iff_eq, bne_iff_ne, beq_eq_false_iff_ne, Bool.and_eq_true, Bool.or_eq_true, Bool.and_eq_false_iff, Bool.or_eq_false_iff, ge_iff_le, gt_iff_lt, Int.not_lt, Int.not_le, ne_eq, Decidable.not_not, bne_eq_false_iff_eq] at hg6_70
              all_goals (exfalso; first | (simp at hg6_70; done) | (simp at hg6_70; omega) | (simp_all; omega) | omega)
          · skip
            try simp only [decide_eq_true_eq, decide_eq_false_iff_not, Bool.not_eq_true', Bool.not_eq_false', beq_iff_eq, bne_iff_ne, beq_eq_false_iff_ne, Bool.and_eq_true, Bool.or_eq_true, Bool.and_eq_false_iff, Bool.or_eq_false_iff, ge_iff_le, gt_iff_lt, Int.not_lt, Int.not_le, ne_eq, Decidable.not_not, bne_eq_false_iff_eq] at hg6_65
            all_goals (exfalso; first | (simp at hg6_65; done) | (simp at hg6_65; omega) | (simp_all; omega) | omega)
        · skip
          try simp only [decide_eq_true_eq, decide_eq_false_iff_not, Bool.not_eq_true', Bool.not_eq_false', beq_iff_eq, bne_iff_ne, beq_eq_false_iff_ne, Bool.and_eq_true, Bool.or_eq_true, Bool.and_eq_false_iff, Bool.or_eq_false_iff, ge_iff_le, gt_iff_lt, Int.not_lt, Int.not_le, ne_eq, Decidable.not_not, bne_eq_false_iff_eq] at hg6_61
          all_goals (exfalso; first | (simp at hg6_61; done) | (simp at hg6_61; omega) | (simp_all; omega) | omega)
      · skip
        try simp only [decide_eq_true_eq, decide_eq_false_iff_not, Bool.not_eq_true', Bool.not_eq_false', beq_iff_eq, bne_iff_ne, beq_eq_false_iff_ne, Bool.and_eq_true, Bool.or_eq_true, Bool.and_eq_false_iff, Bool.or_eq_false_iff, ge_iff_le, gt_iff_lt, Int.not_lt, Int.not_le, ne_eq, Decidable.not_not, bne_eq_false_iff_eq] at hg6_57
        all_goals (exfalso; first | (simp at hg6_57; done) | (simp at hg6_57; omega) | (simp_all; omega) | omega)

theorem law_no (places : Int) (hr : ¬ (1 ≤ places ∧ places ≤ 8)) : Spec Try.prog GV 9 [SV.i places] [] (fun r _ => r = SV.b true) := by
  refine start 93 0 Try.func9 rfl rfl rfl rfl ?_
  refine r1 ?_
  refine s1 2 0 1 rfl rfl rfl rfl rfl rfl trivial ?_
  refine e1 8 rfl ?_
  refine keep [0] rfl ?_
  refine r1 ?_
  refine s1 10 8 1 rfl rfl rfl rfl rfl rfl trivial ?_
  refine c1 (no_Words places hr) [] [] 11 16 2 rfl rfl rfl rfl rfl rfl rfl rfl Try.func31 rfl rfl rfl rfl trivial rfl rfl ?_
  refine s1 9 24 3 rfl rfl rfl rfl rfl rfl trivial ?_
  refine s1 12 32 4 rfl rfl rfl rfl rfl rfl trivial ?_
  refine s1 13 40 5 rfl rfl rfl rfl rfl rfl trivial ?_
  refine s1 3 48 6 rfl rfl rfl rfl rfl rfl trivial ?_
  refine s1 4 56 7 rfl rfl rfl rfl rfl rfl trivial ?_
  refine e1 64 rfl ?_
  refine keep [0, 3, 4] rfl ?_
  refine r1 ?_
  refine s1 15 64 1 rfl rfl rfl rfl rfl rfl trivial ?_
  refine c1 (no_Put places hr) [] [] 16 72 2 rfl rfl rfl rfl rfl rfl rfl rfl Try.func32 rfl rfl rfl rfl trivial rfl rfl ?_
  refine s1 14 80 3 rfl rfl rfl rfl rfl rfl trivial ?_
  refine s1 17 88 4 rfl rfl rfl rfl rfl rfl trivial ?_
  refine s1 18 96 5 rfl rfl rfl rfl rfl rfl trivial ?_
  refine s1 5 104 6 rfl rfl rfl rfl rfl rfl trivial ?_
  refine s1 6 112 7 rfl rfl rfl rfl rfl rfl trivial ?_
  refine e1 120 rfl ?_
  refine keep [0, 3, 4, 5, 6] rfl ?_
  refine r1 ?_
  refine s1 20 120 1 rfl rfl rfl rfl rfl rfl trivial ?_
  refine c1 (no_Take places hr) [] [] 21 128 2 rfl rfl rfl rfl rfl rfl rfl rfl Try.func33 rfl rfl rfl rfl trivial rfl rfl ?_
  refine s1 19 136 3 rfl rfl rfl rfl rfl rfl trivial ?_
  refine s1 22 144 4 rfl rfl rfl rfl rfl rfl trivial ?_
  refine s1 23 152 5 rfl rfl rfl rfl rfl rfl trivial ?_
  refine s1 7 160 6 rfl rfl rfl rfl rfl rfl trivial ?_
  refine s1 8 168 7 rfl rfl rfl rfl rfl rfl trivial ?_
  refine e1 176 rfl ?_
  refine keep [0, 3, 4, 5, 6, 7, 8] rfl ?_
  refine W_seq ?_
  refine r1 ?_
  refine s1 24 176 1 rfl rfl rfl rfl rfl rfl trivial ?_
  refine s1 25 184 2 rfl rfl rfl rfl rfl rfl (by first | trivial | omega | (simp only [List.length_map, List.length_append, List.length_cons, List.length_nil] at *; omega)) ?_
  refine s1 26 192 3 rfl rfl rfl rfl rfl rfl trivial ?_
  refine ask 26 rfl (fun hg4_26 => ?_) (fun hg4_26 => ?_)
  · skip
    try simp only [decide_eq_true_eq, decide_eq_false_iff_not, Bool.not_eq_true', Bool.not_eq_false', beq_iff_eq, bne_iff_ne, beq_eq_false_iff_ne, Bool.and_eq_true, Bool.or_eq_true, Bool.and_eq_false_iff, Bool.or_eq_false_iff, ge_iff_le, gt_iff_lt, Int.not_lt, Int.not_le, ne_eq, Decidable.not_not, bne_eq_false_iff_eq] at hg4_26
    refine g0 2 false 26 27 4 rfl rfl rfl rfl rfl rfl ?_
    refine g0 2 false 26 28 5 rfl rfl rfl rfl rfl rfl ?_
    refine s1 29 216 6 rfl rfl rfl rfl rfl rfl trivial ?_
    refine e1 224 rfl ?_
    refine keep [3, 4, 5, 6, 7, 8, 29] rfl ?_
    refine q1 rfl (fun hc4 => ?_) (fun hc4 => ?_)
    · skip
      try simp only [decide_eq_true_eq, decide_eq_false_iff_not, Bool.not_eq_true', Bool.not_eq_false', beq_iff_eq, bne_iff_ne, beq_eq_false_iff_ne, Bool.and_eq_true, Bool.or_eq_true, Bool.and_eq_false_iff, Bool.or_eq_false_iff, ge_iff_le, gt_iff_lt, Int.not_lt, Int.not_le, ne_eq, Decidable.not_not, bne_eq_false_iff_eq] at hc4
      refine r1 ?_
      refine s1 30 224 1 rfl rfl rfl rfl rfl rfl trivial ?_
      refine s1 31 232 2 rfl rfl rfl rfl rfl rfl (by first | trivial | omega | (simp only [List.length_map, List.length_append, List.length_cons, List.length_nil] at *; omega)) ?_
      refine s1 32 240 3 rfl rfl rfl rfl rfl rfl (by first | trivial | omega | (simp only [List.length_map, List.length_append, List.length_cons, List.length_nil] at *; omega)) ?_
      refine s1 33 248 4 rfl rfl rfl rfl rfl rfl trivial ?_
      refine ask 33 rfl (fun hg5_33 => ?_) (fun hg5_33 => ?_)
      · skip
        try simp only [decide_eq_true_eq, decide_eq_false_iff_not, Bool.not_eq_true', Bool.not_eq_false', beq_iff_eq, bne_iff_ne, beq_eq_false_iff_ne, Bool.and_eq_true, Bool.or_eq_true, Bool.and_eq_false_iff, Bool.or_eq_false_iff, ge_iff_le, gt_iff_lt, Int.not_lt, Int.not_le, ne_eq, Decidable.not_not, bne_eq_false_iff_eq] at hg5_33
        refine g1 3 true 33 34 5 rfl rfl rfl rfl rfl ?_
        refine s1 34 256 5 rfl rfl rfl rfl rfl rfl trivial ?_
        refine g1 3 true 33 35 6 rfl rfl rfl rfl rfl ?_
        refine s1 35 264 6 rfl rfl rfl rfl rfl rfl (by first | trivial | omega | (simp only [List.length_map, List.length_append, List.length_cons, List.length_nil] at *; omega)) ?_
        refine g1 3 true 33 36 7 rfl rfl rfl rfl rfl ?_
        refine s1 36 272 7 rfl rfl rfl rfl rfl rfl (by first | trivial | omega | (simp only [List.length_map, List.length_append, List.length_cons, List.length_nil] at *; omega)) ?_
        refine s1 37 280 8 rfl rfl rfl rfl rfl rfl trivial ?_
        refine s1 38 288 9 rfl rfl rfl rfl rfl rfl trivial ?_
        refine ask 38 rfl (fun hg5_38 => ?_) (fun hg5_38 => ?_)
        · skip
          try simp only [decide_eq_true_eq, decide_eq_false_iff_not, Bool.not_eq_true', Bool.not_eq_false', beq_iff_eq, bne_iff_ne, beq_eq_false_iff_ne, Bool.and_eq_true, Bool.or_eq_true, Bool.and_eq_false_iff, Bool.or_eq_false_iff, ge_iff_le, gt_iff_lt, Int.not_lt, Int.not_le, ne_eq, Decidable.not_not, bne_eq_false_iff_eq] at hg5_38
          refine g1 8 true 38 39 10 rfl rfl rfl rfl rfl ?_
          refine s1 39 296 10 rfl rfl rfl rfl rfl rfl trivial ?_
          refine g1 8 true 38 40 11 rfl rfl rfl rfl rfl ?_
          refine s1 40 304 11 rfl rfl rfl rfl rfl rfl (by first | trivial | omega | (simp only [List.length_map, List.length_append, List.length_cons, List.length_nil] at *; omega)) ?_
          refine g1 8 true 38 41 12 rfl rfl rfl rfl rfl ?_
          refine s1 41 312 12 rfl rfl rfl rfl rfl rfl (by first | trivial | omega | (simp only [List.length_map, List.length_append, List.length_cons, List.length_nil] at *; omega)) ?_
          refine s1 42 320 13 rfl rfl rfl rfl rfl rfl trivial ?_
          refine s1 43 328 14 rfl rfl rfl rfl rfl rfl trivial ?_
          refine ask 43 rfl (fun hg5_43 => ?_) (fun hg5_43 => ?_)
          · skip
            try simp only [decide_eq_true_eq, decide_eq_false_iff_not, Bool.not_eq_true', Bool.not_eq_false', beq_iff_eq, bne_iff_ne, beq_eq_false_iff_ne, Bool.and_eq_true, Bool.or_eq_true, Bool.and_eq_false_iff, Bool.or_eq_false_iff, ge_iff_le, gt_iff_lt, Int.not_lt, Int.not_le, ne_eq, Decidable.not_not, bne_eq_false_iff_eq] at hg5_43
            refine g1 13 true 43 44 15 rfl rfl rfl rfl rfl ?_
            refine s1 44 336 15 rfl rfl rfl rfl rfl rfl trivial ?_
            refine g1 13 true 43 45 16 rfl rfl rfl rfl rfl ?_
            refine s1 45 344 16 rfl rfl rfl rfl rfl rfl (by first | trivial | omega | (simp only [List.length_map, List.length_append, List.length_cons, List.length_nil] at *; omega)) ?_
            refine s1 46 352 17 rfl rfl rfl rfl rfl rfl trivial ?_
            refine s1 47 360 18 rfl rfl rfl rfl rfl rfl trivial ?_
            refine ask 47 rfl (fun hg5_47 => ?_) (fun hg5_47 => ?_)
            · skip
              try simp only [decide_eq_true_eq, decide_eq_false_iff_not, Bool.not_eq_true', Bool.not_eq_false', beq_iff_eq, bne_iff_ne, beq_eq_false_iff_ne, Bool.and_eq_true, Bool.or_eq_true, Bool.and_eq_false_iff, Bool.or_eq_false_iff, ge_iff_le, gt_iff_lt, Int.not_lt, Int.not_le, ne_eq, Decidable.not_not, bne_eq_false_iff_eq] at hg5_47
              refine g1 17 true 47 48 19 rfl rfl rfl rfl rfl ?_
              refine s1 48 368 19 rfl rfl rfl rfl rfl rfl trivial ?_
              refine g1 17 true 47 49 20 rfl rfl rfl rfl rfl ?_
              refine s1 49 376 20 rfl rfl rfl rfl rfl rfl (by first | trivial | omega | (simp only [List.length_map, List.length_append, List.length_cons, List.length_nil] at *; omega)) ?_
              refine s1 50 384 21 rfl rfl rfl rfl rfl rfl trivial ?_
              refine s1 51 392 22 rfl rfl rfl rfl rfl rfl trivial ?_
              refine ask 51 rfl (fun hg5_51 => ?_) (fun hg5_51 => ?_)
              · skip
                try simp only [decide_eq_true_eq, decide_eq_false_iff_not, Bool.not_eq_true', Bool.not_eq_false', beq_iff_eq, bne_iff_ne, beq_eq_false_iff_ne, Bool.and_eq_true, Bool.or_eq_true, Bool.and_eq_false_iff, Bool.or_eq_false_iff, ge_iff_le, gt_iff_lt, Int.not_lt, Int.not_le, ne_eq, Decidable.not_not, bne_eq_false_iff_eq] at hg5_51
                refine g1 21 true 51 52 23 rfl rfl rfl rfl rfl ?_
                refine s1 52 400 23 rfl rfl rfl rfl rfl rfl trivial ?_
                refine g1 21 true 51 53 24 rfl rfl rfl rfl rfl ?_
                refine s1 53 408 24 rfl rfl rfl rfl rfl rfl (by first | trivial | omega | (simp only [List.length_map, List.length_append, List.length_cons, List.length_nil] at *; omega)) ?_
                refine s1 54 416 25 rfl rfl rfl rfl rfl rfl trivial ?_
                refine s1 2 424 26 rfl rfl rfl rfl rfl rfl trivial ?_
                refine e1 432 rfl ?_
                refine keep [2] rfl ?_
                refine W_ret ?_
                refine tr ?_
                exact out1 2 (SV.b true) (π := []) (hout := []) Try.results9 rfl (by first | rfl | (simp; done) | (simp [*]; done)) rfl rfl trivial rfl
              · skip
                try simp only [decide_eq_true_eq, decide_eq_false_iff_not, Bool.not_eq_true', Bool.not_eq_false', beq_iff_eq, bne_iff_ne, beq_eq_false_iff_ne, Bool.and_eq_true, Bool.or_eq_true, Bool.and_eq_false_iff, Bool.or_eq_false_iff, ge_iff_le, gt_iff_lt, Int.not_lt, Int.not_le, ne_eq, Decidable.not_not, bne_eq_false_iff_eq] at hg5_51
                all_goals (exfalso; first | (simp at hg5_51; done) | (simp at hg5_51; omega) | (simp_all; omega) | omega)
            · skip
              try simp only [decide_eq_true_eq, decide_eq_false_iff_not, Bool.not_eq_true', Bool.not_eq_false', beq_iff_eq, bne_iff_ne, beq_eq_false_iff_ne, Bool.and_eq_true, Bool.or_eq_true, Bool.and_eq_false_iff, Bool.or_eq_false_iff, ge_iff_le, gt_iff_lt, Int.not_lt, Int.not_le, ne_eq, Decidable.not_not, bne_eq_false_iff_eq] at hg5_47
              all_goals (exfalso; first | (simp at hg5_47; done) | (simp at hg5_47; omega) | (simp_all; omega) | omega)
          · skip
            try simp only [decide_eq_true_eq, decide_eq_false_iff_not, Bool.not_eq_true', Bool.not_eq_false', beq_iff_eq, bne_iff_ne, beq_eq_false_iff_ne, Bool.and_eq_true, Bool.or_eq_true, Bool.and_eq_false_iff, Bool.or_eq_false_iff, ge_iff_le, gt_iff_lt, Int.not_lt, Int.not_le, ne_eq, Decidable.not_not, bne_eq_false_iff_eq] at hg5_43
            all_goals (exfalso; first | (simp at hg5_43; done) | (simp at hg5_43; omega) | (simp_all; omega) | omega)
        · skip
          try simp only [decide_eq_true_eq, decide_eq_false_iff_not, Bool.not_eq_true', Bool.not_eq_false', beq_iff_eq, bne_iff_ne, beq_eq_false_iff_ne, Bool.and_eq_true, Bool.or_eq_true, Bool.and_eq_false_iff, Bool.or_eq_false_iff, ge_iff_le, gt_iff_lt, Int.not_lt, Int.not_le, ne_eq, Decidable.not_not, bne_eq_false_iff_eq] at hg5_38
          all_goals (exfalso; first | (simp at hg5_38; done) | (simp at hg5_38; omega) | (simp_all; omega) | omega)
      · skip
        try simp only [decide_eq_true_eq, decide_eq_false_iff_not, Bool.not_eq_true', Bool.not_eq_false', beq_iff_eq, bne_iff_ne, beq_eq_false_iff_ne, Bool.and_eq_true, Bool.or_eq_true, Bool.and_eq_false_iff, Bool.or_eq_false_iff, ge_iff_le, gt_iff_lt, Int.not_lt, Int.not_le, ne_eq, Decidable.not_not, bne_eq_false_iff_eq] at hg5_33
        all_goals (exfalso; first | (simp at hg5_33; done) | (simp at hg5_33; omega) | (simp_all; omega) | omega)
    · skip
      exact absurd hc4 (by decide)
  · skip
    try simp only [decide_eq_true_eq, decide_eq_false_iff_not, Bool.not_eq_true', Bool.not_eq_false', beq_iff_eq, bne_iff_ne, beq_eq_false_iff_ne, Bool.and_eq_true, Bool.or_eq_true, Bool.and_eq_false_iff, Bool.or_eq_false_iff, ge_iff_le, gt_iff_lt, Int.not_lt, Int.not_le, ne_eq, Decidable.not_not, bne_eq_false_iff_eq] at hg4_26
    refine g1 2 false 26 27 4 rfl rfl rfl rfl rfl ?_
    refine s1 27 200 4 rfl rfl rfl rfl rfl rfl trivial ?_
    refine g1 2 false 26 28 5 rfl rfl rfl rfl rfl ?_
    refine s1 28 208 5 rfl rfl rfl rfl rfl rfl (by first | trivial | omega | (simp only [List.length_map, List.length_append, List.length_cons, List.length_nil] at *; omega)) ?_
    refine s1 29 216 6 rfl rfl rfl rfl rfl rfl trivial ?_
    refine e1 224 rfl ?_
    refine keep [3, 4, 5, 6, 7, 8, 29] rfl ?_
    refine q1 rfl (fun hc4 => ?_) (fun hc4 => ?_)
    · skip
      try simp only [decide_eq_true_eq, decide_eq_false_iff_not, Bool.not_eq_true', Bool.not_eq_false', beq_iff_eq, bne_iff_ne, beq_eq_false_iff_ne, Bool.and_eq_true, Bool.or_eq_true, Bool.and_eq_false_iff, Bool.or_eq_false_iff, ge_iff_le, gt_iff_lt, Int.not_lt, Int.not_le, ne_eq, Decidable.not_not, bne_eq_false_iff_eq] at hc4
      refine r1 ?_
      refine s1 30 224 1 rfl rfl rfl rfl rfl rfl trivial ?_
      refine s1 31 232 2 rfl rfl rfl rfl rfl rfl (by first | trivial | omega | (simp only [List.length_map, List.length_append, List.length_cons, List.length_nil] at *; omega)) ?_
      refine s1 32 240 3 rfl rfl rfl rfl rfl rfl (by first | trivial | omega | (simp only [List.length_map, List.length_append, List.length_cons, List.length_nil] at *; omega)) ?_
      refine s1 33 248 4 rfl rfl rfl rfl rfl rfl trivial ?_
      refine ask 33 rfl (fun hg5_33 => ?_) (fun hg5_33 => ?_)
      · skip
        try simp only [decide_eq_true_eq, decide_eq_false_iff_not, Bool.not_eq_true', Bool.not_eq_false', beq_iff_eq, bne_iff_ne, beq_eq_false_iff_ne, Bool.and_eq_true, Bool.or_eq_true, Bool.and_eq_false_iff, Bool.or_eq_false_iff, ge_iff_le, gt_iff_lt, Int.not_lt, Int.not_le, ne_eq, Decidable.not_not, bne_eq_false_iff_eq] at hg5_33
        refine g1 3 true 33 34 5 rfl rfl rfl rfl rfl ?_
        refine s1 34 256 5 rfl rfl rfl rfl rfl rfl trivial ?_
        refine g1 3 true 33 35 6 rfl rfl rfl rfl rfl ?_
        refine s1 35 264 6 rfl rfl rfl rfl rfl rfl (by first | trivial | omega | (simp only [List.length_map, List.length_append, List.length_cons, List.length_nil] at *; omega)) ?_
        refine g1 3 true 33 36 7 rfl rfl rfl rfl rfl ?_
        refine s1 36 272 7 rfl rfl rfl rfl rfl rfl (by first | trivial | omega | (simp only [List.length_map, List.length_append, List.length_cons, List.length_nil] at *; omega)) ?_
        refine s1 37 280 8 rfl rfl rfl rfl rfl rfl trivial ?_
        refine s1 38 288 9 rfl rfl rfl rfl rfl rfl trivial ?_
        refine ask 38 rfl (fun hg5_38 => ?_) (fun hg5_38 => ?_)
        · skip
          try simp only [decide_eq_true_eq, decide_eq_false_iff_not, Bool.not_eq_true', Bool.not_eq_false', beq_iff_eq, bne_iff_ne, beq_eq_false_iff_ne, Bool.and_eq_true, Bool.or_eq_true, Bool.and_eq_false_iff, Bool.or_eq_false_iff, ge_iff_le, gt_iff_lt, Int.not_lt, Int.not_le, ne_eq, Decidable.not_not, bne_eq_false_iff_eq] at hg5_38
          refine g1 8 true 38 39 10 rfl rfl rfl rfl rfl ?_
          refine s1 39 296 10 rfl rfl rfl rfl rfl rfl trivial ?_
          refine g1 8 true 38 40 11 rfl rfl rfl rfl rfl ?_
          refine s1 40 304 11 rfl rfl rfl rfl rfl rfl (by first | trivial | omega | (simp only [List.length_map, List.length_append, List.length_cons, List.length_nil] at *; omega)) ?_
          refine g1 8 true 38 41 12 rfl rfl rfl rfl rfl ?_
          refine s1 41 312 12 rfl rfl rfl rfl rfl rfl (by first | trivial | omega | (simp only [List.length_map, List.length_append, List.length_cons, List.length_nil] at *; omega)) ?_
          refine s1 42 320 13 rfl rfl rfl rfl rfl rfl trivial ?_
          refine s1 43 328 14 rfl rfl rfl rfl rfl rfl trivial ?_
          refine ask 43 rfl (fun hg5_43 => ?_) (fun hg5_43 => ?_)
          · skip
            try simp only [decide_eq_true_eq, decide_eq_false_iff_not, Bool.not_eq_true', Bool.not_eq_false', beq_iff_eq, bne_iff_ne, beq_eq_false_iff_ne, Bool.and_eq_true, Bool.or_eq_true, Bool.and_eq_false_iff, Bool.or_eq_false_iff, ge_iff_le, gt_iff_lt, Int.not_lt, Int.not_le, ne_eq, Decidable.not_not, bne_eq_false_iff_eq] at hg5_43
            refine g1 13 true 43 44 15 rfl rfl rfl rfl rfl ?_
            refine s1 44 336 15 rfl rfl rfl rfl rfl rfl trivial ?_
            refine g1 13 true 43 45 16 rfl rfl rfl rfl rfl ?_
            refine s1 45 344 16 rfl rfl rfl rfl rfl rfl (by first | trivial | omega | (simp only [List.length_map, List.length_append, List.length_cons, List.length_nil] at *; omega)) ?_
            refine s1 46 352 17 rfl rfl rfl rfl rfl rfl trivial ?_
            refine s1 47 360 18 rfl rfl rfl rfl rfl rfl trivial ?_
            refine ask 47 rfl (fun hg5_47 => ?_) (fun hg5_47 => ?_)
            · skip
              try simp only [decide_eq_true_eq, decide_eq_false_iff_not, Bool.not_eq_true', Bool.not_eq_false', beq_iff_eq, bne_iff_ne, beq_eq_false_iff_ne, Bool.and_eq_true, Bool.or_eq_true, Bool.and_eq_false_iff, Bool.or_eq_false_iff, ge_iff_le, gt_iff_lt, Int.not_lt, Int.not_le, ne_eq, Decidable.not_not, bne_eq_false_iff_eq] at hg5_47
              refine g1 17 true 47 48 19 rfl rfl rfl rfl rfl ?_
              refine s1 48 368 19 rfl rfl rfl rfl rfl rfl trivial ?_
              refine g1 17 true 47 49 20 rfl rfl rfl rfl rfl ?_
              refine s1 49 376 20 rfl rfl rfl rfl rfl rfl (by first | trivial | omega | (simp only [List.length_map, List.length_append, List.length_cons, List.length_nil] at *; omega)) ?_
              refine s1 50 384 21 rfl rfl rfl rfl rfl rfl trivial ?_
              refine s1 51 392 22 rfl rfl rfl rfl rfl rfl trivial ?_
              refine ask 51 rfl (fun hg5_51 => ?_) (fun hg5_51 => ?_)
              · skip
                try simp only [decide_eq_true_eq, decide_eq_false_iff_not, Bool.not_eq_true', Bool.not_eq_false', beq_iff_eq, bne_iff_ne, beq_eq_false_iff_ne, Bool.and_eq_true, Bool.or_eq_true, Bool.and_eq_false_iff, Bool.or_eq_false_iff, ge_iff_le, gt_iff_lt, Int.not_lt, Int.not_le, ne_eq, Decidable.not_not, bne_eq_false_iff_eq] at hg5_51
                refine g1 21 true 51 52 23 rfl rfl rfl rfl rfl ?_
                refine s1 52 400 23 rfl rfl rfl rfl rfl rfl trivial ?_
                refine g1 21 true 51 53 24 rfl rfl rfl rfl rfl ?_
                refine s1 53 408 24 rfl rfl rfl rfl rfl rfl (by first | trivial | omega | (simp only [List.length_map, List.length_append, List.length_cons, List.length_nil] at *; omega)) ?_
                refine s1 54 416 25 rfl rfl rfl rfl rfl rfl trivial ?_
                refine s1 2 424 26 rfl rfl rfl rfl rfl rfl trivial ?_
                refine e1 432 rfl ?_
                refine keep [2] rfl ?_
                refine W_ret ?_
                refine tr ?_
                exact out1 2 (SV.b true) (π := []) (hout := []) Try.results9 rfl (by first | rfl | (simp; done) | (simp [*]; done)) rfl rfl trivial rfl
              · skip
                try simp only [decide_eq_true_eq, decide_eq_false_iff_not, Bool.not_eq_true', Bool.not_eq_false', beq_iff_eq, bne_iff_ne, beq_eq_false_iff_ne, Bool.and_eq_true, Bool.or_eq_true, Bool.and_eq_false_iff, Bool.or_eq_false_iff, ge_iff_le, gt_iff_lt, Int.not_lt, Int.not_le, ne_eq, Decidable.not_not, bne_eq_false_iff_eq] at hg5_51
                all_goals (exfalso; first | (simp at hg5_51; done) | (simp at hg5_51; omega) | (simp_all; omega) | omega)
            · skip
              try simp only [decide_eq_true_eq, decide_eq_false_iff_not, Bool.not_eq_true', Bool.not_eq_false', beq_iff_eq, bne_iff_ne, beq_eq_false_iff_ne, Bool.and_eq_true, Bool.or_eq_true, Bool.and_eq_false_iff, Bool.or_eq_false_iff, ge_iff_le, gt_iff_lt, Int.not_lt, Int.not_le, ne_eq, Decidable.not_not, bne_eq_false_iff_eq] at hg5_47
              all_goals (exfalso; first | (simp at hg5_47; done) | (simp at hg5_47; omega) | (simp_all; omega) | omega)
          · skip
            try simp only [decide_eq_true_eq, decide_eq_false_iff_not, Bool.not_eq_true', Bool.not_eq_false', beq_iff_eq, bne_iff_ne, beq_eq_false_iff_ne, Bool.and_eq_true, Bool.or_eq_true, Bool.and_eq_false_iff, Bool.or_eq_false_iff, ge_iff_le, gt_iff_lt, Int.not_lt, Int.not_le, ne_eq, Decidable.not_not, bne_eq_false_iff_eq] at hg5_43
            all_goals (exfalso; first | (simp at hg5_43; done) | (simp at hg5_43; omega) | (simp_all; omega) | omega)
        · skip
          try simp only [decide_eq_true_eq, decide_eq_false_iff_not, Bool.not_eq_true', Bool.not_eq_false', beq_iff_eq, bne_iff_ne, beq_eq_false_iff_ne, Bool.and_eq_true, Bool.or_eq_true, Bool.and_eq_false_iff, Bool.or_eq_false_iff, ge_iff_le, gt_iff_lt, Int.not_lt, Int.not_le, ne_eq, Decidable.not_not, bne_eq_false_iff_eq] at hg5_38
          all_goals (exfalso; first | (simp at hg5_38; done) | (simp at hg5_38; omega) | (simp_all; omega) | omega)
      · skip
        try simp only [decide_eq_true_eq, decide_eq_false_iff_not, Bool.not_eq_true', Bool.not_eq_false', beq_iff_eq, bne_iff_ne, beq_eq_false_iff_ne, Bool.and_eq_true, Bool.or_eq_true, Bool.and_eq_false_iff, Bool.or_eq_false_iff, ge_iff_le, gt_iff_lt, Int.not_lt, Int.not_le, ne_eq, Decidable.not_not, bne_eq_false_iff_eq] at hg5_33
        all_goals (exfalso; first | (simp at hg5_33; done) | (simp at hg5_33; omega) | (simp_all; omega) | omega)
    · skip
      exfalso; simp at hc4; omega

theorem law_all (places : Int) : Spec Try.prog GV 9 [SV.i places] [] (fun r _ => r = SV.b true) := by
  by_cases hr : 1 ≤ places ∧ places ≤ 8
  · exact law_yes places hr
  · exact law_no places hr

end Go.Proofs.Ytnmbdggdilbdaaa.Nice
