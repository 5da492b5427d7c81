/- The codes of package queue, and the law QueueCodes. -/
import Derived.Test.YtnmbdggdilbdaaaCodeMay
namespace Go.Proofs.Ytnmbdggdilbdaaa.Nice
open Go
set_option linter.unusedVariables false
set_option linter.unusedSimpArgs false
set_option maxRecDepth 100000
set_option maxHeartbeats 4000000
abbrev st_again : ByteArray := ⟨#[97, 103, 97, 105, 110]⟩
abbrev st_all : ByteArray := ⟨#[97, 108, 108]⟩
abbrev st_base : ByteArray := ⟨#[98, 97, 115, 101]⟩
abbrev st_count : ByteArray := ⟨#[99, 111, 117, 110, 116]⟩
abbrev st_full : ByteArray := ⟨#[102, 117, 108, 108]⟩
abbrev st_more : ByteArray := ⟨#[109, 111, 114, 101]⟩
abbrev st_n : ByteArray := ⟨#[110]⟩
abbrev st_next : ByteArray := ⟨#[110, 101, 120, 116]⟩
abbrev st_no : ByteArray := ⟨#[110, 111]⟩
abbrev st_now : ByteArray := ⟨#[110, 111, 119]⟩
abbrev st_one : ByteArray := ⟨#[111, 110, 101]⟩
abbrev st_rest : ByteArray := ⟨#[114, 101, 115, 116]⟩
abbrev st_there : ByteArray := ⟨#[116, 104, 101, 114, 101]⟩
abbrev st_up : ByteArray := ⟨#[117, 112]⟩
abbrev st_v : ByteArray := ⟨#[118]⟩
abbrev st_wide : ByteArray := ⟨#[119, 105, 100, 101]⟩
theorem may_any (places : Int) : Spec Try.prog GV 64 [SV.i places] [] (fun r ho => r = SV.b ((decide (1 ≤ places) && decide (places ≤ 8))) ∧ ho = []) := by
  refine start 9 0 Try.func64 rfl rfl rfl rfl ?_
  refine r1 ?_
  refine s1 2 0 1 rfl rfl rfl rfl rfl rfl trivial ?_
  refine e1 8 rfl ?_
  refine keep [0] rfl ?_
  refine r1 ?_
  refine s1 3 8 1 rfl rfl rfl rfl rfl rfl trivial ?_
  refine s1 4 16 2 rfl rfl rfl rfl rfl rfl (by first | trivial | omega | (simp only [List.length_map, List.length_append, List.length_cons, List.length_nil] at *; omega)) ?_
  refine s1 5 24 3 rfl rfl rfl rfl rfl rfl trivial ?_
  refine ask 5 rfl (fun hg1_5 => ?_) (fun hg1_5 => ?_)
  · skip
    try simp only [decide_eq_true_eq, decide_eq_false_iff_not, Bool.not_eq_true', Bool.not_eq_false', beq_iff_eq, bne_iff_ne, beq_eq_false_iff_ne, Bool.and_eq_true, Bool.or_eq_true, Bool.and_eq_false_iff, Bool.or_eq_false_iff, ge_iff_le, gt_iff_lt, Int.not_lt, Int.not_le, ne_eq, Decidable.not_not, bne_eq_false_iff_eq] at hg1_5
    refine g1 2 true 5 6 4 rfl rfl rfl rfl rfl ?_
    refine s1 6 32 4 rfl rfl rfl rfl rfl rfl trivial ?_
    refine g1 2 true 5 7 5 rfl rfl rfl rfl rfl ?_
    refine s1 7 40 5 rfl rfl rfl rfl rfl rfl (by first | trivial | omega | (simp only [List.length_map, List.length_append, List.length_cons, List.length_nil] at *; omega)) ?_
    refine s1 8 48 6 rfl rfl rfl rfl rfl rfl trivial ?_
    refine s1 2 56 7 rfl rfl rfl rfl rfl rfl trivial ?_
    refine e1 64 rfl ?_
    refine keep [2] rfl ?_
    refine W_ret ?_
    exact out1 2 (SV.b ((decide (1 ≤ places) && decide (places ≤ 8)))) (π := []) (hout := []) Try.results64 rfl (by show SV.b _ = SV.b _; refine congrArg SV.b (Bool.eq_iff_iff.2 ?_); simp at *; try omega) rfl rfl trivial ⟨rfl, rfl⟩
  · skip
    try simp only [decide_eq_true_eq, decide_eq_false_iff_not, Bool.not_eq_true', Bool.not_eq_false', beq_iff_eq, bne_iff_ne, beq_eq_false_iff_ne, Bool.and_eq_true, Bool.or_eq_true, Bool.and_eq_false_iff, Bool.or_eq_false_iff, ge_iff_le, gt_iff_lt, Int.not_lt, Int.not_le, ne_eq, Decidable.not_not, bne_eq_false_iff_eq] at hg1_5
    refine g0 2 true 5 6 4 rfl rfl rfl rfl rfl rfl ?_
    refine g0 2 true 5 7 5 rfl rfl rfl rfl rfl rfl ?_
    refine s1 8 48 6 rfl rfl rfl rfl rfl rfl trivial ?_
    refine s1 2 56 7 rfl rfl rfl rfl rfl rfl trivial ?_
    refine e1 64 rfl ?_
    refine keep [2] rfl ?_
    refine W_ret ?_
    exact out1 2 (SV.b ((decide (1 ≤ places) && decide (places ≤ 8)))) (π := []) (hout := []) Try.results64 rfl (by show SV.b _ = SV.b _; refine congrArg SV.b (Bool.eq_iff_iff.2 ?_); simp at *; try omega) rfl rfl trivial ⟨rfl, rfl⟩

theorem no_Words (places : Int) (hr : ¬ (1 ≤ places ∧ places ≤ 8)) : Spec Try.prog GV 34 [SV.i places] [] (fun r ho => r = SV.tup [.d .nils, SV.i 2] ∧ ho = []) := by
  refine start 8 0 Try.func34 rfl rfl rfl rfl ?_
  refine r1 ?_
  refine s1 2 0 1 rfl rfl rfl rfl rfl rfl trivial ?_
  refine s1 3 8 2 rfl rfl rfl rfl rfl rfl trivial ?_
  refine e1 16 rfl ?_
  refine keep [0] rfl ?_
  refine W_seq ?_
  refine r1 ?_
  refine s1 4 16 1 rfl rfl rfl rfl rfl rfl trivial ?_
  refine c1 (may_any places) [] [] 5 24 2 rfl rfl rfl rfl rfl rfl rfl rfl Try.func64 rfl rfl rfl rfl trivial rfl rfl ?_
  refine s1 6 32 3 rfl rfl rfl rfl rfl rfl trivial ?_
  refine e1 40 rfl ?_
  refine keep [6] rfl ?_
  refine q1 rfl (fun hc1 => ?_) (fun hc1 => ?_)
  · skip
    try simp only [decide_eq_true_eq, decide_eq_false_iff_not, Bool.not_eq_true', Bool.not_eq_false', beq_iff_eq, bne_iff_ne, beq_eq_false_iff_ne, Bool.and_eq_true, Bool.or_eq_true, Bool.and_eq_false_iff, Bool.or_eq_false_iff, ge_iff_le, gt_iff_lt, Int.not_lt, Int.not_le, ne_eq, Decidable.not_not, bne_eq_false_iff_eq] at hc1
    refine r1 ?_
    refine s1 2 40 1 rfl rfl rfl rfl rfl rfl trivial ?_
    refine s1 3 48 2 rfl rfl rfl rfl rfl rfl trivial ?_
    refine e1 56 rfl ?_
    refine keep [2, 3] rfl ?_
    refine W_ret ?_
    refine tr ?_
    exact out2 2 3 (.d .nils) (SV.i 2) (π := []) (hout := []) Try.results34 rfl rfl rfl rfl rfl rfl trivial ⟨rfl, rfl⟩
  · skip
    exfalso; simp at hc1; omega

theorem no_Put (places : Int) (hr : ¬ (1 ≤ places ∧ places ≤ 8)) : Spec Try.prog GV 35 [SV.i places] [] (fun r ho => r = SV.tup [.d .nils, SV.i 2] ∧ ho = []) := by
  refine start 42 0 Try.func35 rfl rfl rfl rfl ?_
  refine r1 ?_
  refine s1 2 0 1 rfl rfl rfl rfl rfl rfl trivial ?_
  refine s1 3 8 2 rfl rfl rfl rfl rfl rfl trivial ?_
  refine e1 16 rfl ?_
  refine keep [0] rfl ?_
  refine W_seq ?_
  refine r1 ?_
  refine s1 5 16 1 rfl rfl rfl rfl rfl rfl trivial ?_
  refine c1 (may_any places) [] [] 6 24 2 rfl rfl rfl rfl rfl rfl rfl rfl Try.func64 rfl rfl rfl rfl trivial rfl rfl ?_
  refine s1 7 32 3 rfl rfl rfl rfl rfl rfl trivial ?_
  refine e1 40 rfl ?_
  refine keep [0, 7] rfl ?_
  refine q1 rfl (fun hc1 => ?_) (fun hc1 => ?_)
  · skip
    try simp only [decide_eq_true_eq, decide_eq_false_iff_not, Bool.not_eq_true', Bool.not_eq_false', beq_iff_eq, bne_iff_ne, beq_eq_false_iff_ne, Bool.and_eq_true, Bool.or_eq_true, Bool.and_eq_false_iff, Bool.or_eq_false_iff, ge_iff_le, gt_iff_lt, Int.not_lt, Int.not_le, ne_eq, Decidable.not_not, bne_eq_false_iff_eq] at hc1
    refine r1 ?_
    refine s1 2 40 1 rfl rfl rfl rfl rfl rfl trivial ?_
    refine s1 3 48 2 rfl rfl rfl rfl rfl rfl trivial ?_
    refine e1 56 rfl ?_
    refine keep [2, 3] rfl ?_
    refine W_ret ?_
    refine tr ?_
    exact out2 2 3 (.d .nils) (SV.i 2) (π := []) (hout := []) Try.results35 rfl rfl rfl rfl rfl rfl trivial ⟨rfl, rfl⟩
  · skip
    exfalso; simp at hc1; omega

theorem no_Take (places : Int) (hr : ¬ (1 ≤ places ∧ places ≤ 8)) : Spec Try.prog GV 36 [SV.i places] [] (fun r ho => r = SV.tup [.d .nils, SV.i 2] ∧ ho = []) := by
  refine start 37 0 Try.func36 rfl rfl rfl rfl ?_
  refine r1 ?_
  refine s1 2 0 1 rfl rfl rfl rfl rfl rfl trivial ?_
  refine s1 3 8 2 rfl rfl rfl rfl rfl rfl trivial ?_
  refine e1 16 rfl ?_
  refine keep [0] rfl ?_
  refine W_seq ?_
  refine r1 ?_
  refine s1 5 16 1 rfl rfl rfl rfl rfl rfl trivial ?_
  refine c1 (may_any places) [] [] 6 24 2 rfl rfl rfl rfl rfl rfl rfl rfl Try.func64 rfl rfl rfl rfl trivial rfl rfl ?_
  refine s1 7 32 3 rfl rfl rfl rfl rfl rfl trivial ?_
  refine e1 40 rfl ?_
  refine keep [7] rfl ?_
  refine q1 rfl (fun hc1 => ?_) (fun hc1 => ?_)
  · skip
    try simp only [decide_eq_true_eq, decide_eq_false_iff_not, Bool.not_eq_true', Bool.not_eq_false', beq_iff_eq, bne_iff_ne, beq_eq_false_iff_ne, Bool.and_eq_true, Bool.or_eq_true, Bool.and_eq_false_iff, Bool.or_eq_false_iff, ge_iff_le, gt_iff_lt, Int.not_lt, Int.not_le, ne_eq, Decidable.not_not, bne_eq_false_iff_eq] at hc1
    refine r1 ?_
    refine s1 2 40 1 rfl rfl rfl rfl rfl rfl trivial ?_
    refine s1 3 48 2 rfl rfl rfl rfl rfl rfl trivial ?_
    refine e1 56 rfl ?_
    refine keep [2, 3] rfl ?_
    refine W_ret ?_
    refine tr ?_
    exact out2 2 3 (.d .nils) (SV.i 2) (π := []) (hout := []) Try.results36 rfl rfl rfl rfl rfl rfl trivial ⟨rfl, rfl⟩
  · skip
    exfalso; simp at hc1; omega

theorem yes_Words (places : Int) (hr : 1 ≤ places ∧ places ≤ 8) : Spec Try.prog GV 34 [SV.i places] [] (fun r ho => r = SV.tup [.sl 0 0 1, SV.i 0] ∧ ho = [none]) := by
  refine start 8 0 Try.func34 rfl rfl rfl rfl ?_
  refine r1 ?_
  refine s1 2 0 1 rfl rfl rfl rfl rfl rfl trivial ?_
  refine s1 3 8 2 rfl rfl rfl rfl rfl rfl trivial ?_
  refine e1 16 rfl ?_
  refine keep [0] rfl ?_
  refine W_seq ?_
  refine r1 ?_
  refine s1 4 16 1 rfl rfl rfl rfl rfl rfl trivial ?_
  refine c1 (may_any places) [] [] 5 24 2 rfl rfl rfl rfl rfl rfl rfl rfl Try.func64 rfl rfl rfl rfl trivial rfl rfl ?_
  refine s1 6 32 3 rfl rfl rfl rfl rfl rfl trivial ?_
  refine e1 40 rfl ?_
  refine keep [6] rfl ?_
  refine q1 rfl (fun hc1 => ?_) (fun hc1 => ?_)
  · skip
    exfalso; simp at hc1; omega
  · skip
    try simp only [decide_eq_true_eq, decide_eq_false_iff_not, Bool.not_eq_true', Bool.not_eq_false', beq_iff_eq, bne_iff_ne, beq_eq_false_iff_ne, Bool.and_eq_true, Bool.or_eq_true, Bool.and_eq_false_iff, Bool.or_eq_false_iff, ge_iff_le, gt_iff_lt, Int.not_lt, Int.not_le, ne_eq, Decidable.not_not, bne_eq_false_iff_eq] at hc1
    refine W_skip ?_
    refine tn ?_
    refine r1 ?_
    refine s1 7 40 1 rfl rfl rfl rfl rfl rfl trivial ?_
    refine s1 2 48 2 rfl rfl rfl rfl rfl rfl trivial ?_
    refine s1 3 56 3 rfl rfl rfl rfl rfl rfl trivial ?_
    refine e1 64 rfl ?_
    refine keep [2, 3] rfl ?_
    refine W_ret ?_
    exact out2 2 3 (.sl 0 0 1) (SV.i 0) (π := [40]) (hout := [none]) Try.results34 rfl rfl rfl rfl rfl rfl trivial ⟨rfl, rfl⟩

def B_Put (places : Int) : Bld := ((((((((((((((((((((((((mk [st_v]).set st_one 1).set st_wide 64).set st_count 16).set st_all places).mark st_again).word 13 st_now st_base 0).doo 7 st_n st_now st_count).doo 8 st_full st_n st_all).iff 11 st_full st_no).doo 5 st_more st_v st_count).mark st_up).iff 12 st_n st_there).doo 5 st_more st_more st_wide).doo 4 st_n st_n st_one).jmp st_up).mark st_there).doo 3 st_next st_now st_more).doo 3 st_next st_next st_one).cas st_next st_base 0 st_now).iff 12 st_next st_again).tell st_one).done.mark st_no).tell st_base)
theorem yes_Put (places : Int) (hr : 1 ≤ places ∧ places ≤ 8) : Spec Try.prog GV 35 [SV.i places] [] (fun r ho => r = SV.tup [.sl 0 0 (fin (B_Put places)).length, SV.i 0] ∧ ho = [some (.rows 42 5 (fin (B_Put places)).length (insF (fin (B_Put places))))]) := by
  refine start 42 0 Try.func35 rfl rfl rfl rfl ?_
  refine r1 ?_
  refine s1 2 0 1 rfl rfl rfl rfl rfl rfl trivial ?_
  refine s1 3 8 2 rfl rfl rfl rfl rfl rfl trivial ?_
  refine e1 16 rfl ?_
  refine keep [0] rfl ?_
  refine W_seq ?_
  refine r1 ?_
  refine s1 5 16 1 rfl rfl rfl rfl rfl rfl trivial ?_
  refine c1 (may_any places) [] [] 6 24 2 rfl rfl rfl rfl rfl rfl rfl rfl Try.func64 rfl rfl rfl rfl trivial rfl rfl ?_
  refine s1 7 32 3 rfl rfl rfl rfl rfl rfl trivial ?_
  refine e1 40 rfl ?_
  refine keep [0, 7] rfl ?_
  refine q1 rfl (fun hc1 => ?_) (fun hc1 => ?_)
  · skip
    exfalso; simp at hc1; omega
  · skip
    try simp only [decide_eq_true_eq, decide_eq_false_iff_not, Bool.not_eq_true', Bool.not_eq_false', beq_iff_eq, bne_iff_ne, beq_eq_false_iff_ne, Bool.and_eq_true, Bool.or_eq_true, Bool.and_eq_false_iff, Bool.or_eq_false_iff, ge_iff_le, gt_iff_lt, Int.not_lt, Int.not_le, ne_eq, Decidable.not_not, bne_eq_false_iff_eq] at hc1
    refine W_skip ?_
    refine tn ?_
    refine r1 ?_
    refine sLit 1 (strsF [st_v]) 8 40 1 rfl rfl rfl rfl rfl rfl rfl rfl rfl (by intro i c hi hc; obtain rfl : i = 0 := (by omega); obtain rfl : c = 0 := (by omega); rfl) ?_
    refine c1 (new_any [st_v] (by decide)) [] [48, 49, 50, 51, 52] 9 48 2 rfl rfl rfl rfl rfl rfl rfl rfl Try.func45 rfl rfl rfl rfl trivial rfl rfl ?_
    have hb1 := ok_mk [st_v]
    refine c1 (set_any (mk [st_v]) st_one 1 hb1 (by decide)) [48, 49, 50, 51, 52] [48, 49, 50, 51, 52, 56] 10 56 3 rfl rfl rfl rfl rfl rfl rfl rfl Try.func46 rfl rfl rfl rfl ⟨rfl, rfl, rfl, rfl, rfl, trivial⟩ rfl rfl ?_
    have hb2 := ok_set st_one 1 hb1
    refine c1 (set_any ((mk [st_v]).set st_one 1) st_wide 64 hb2 (by decide)) [48, 56, 50, 51, 52] [48, 56, 50, 51, 52, 64] 11 64 4 rfl rfl rfl rfl rfl rfl rfl rfl Try.func46 rfl rfl rfl rfl ⟨rfl, rfl, rfl, rfl, rfl, trivial⟩ rfl rfl ?_
    have hb3 := ok_set st_wide 64 hb2
    refine c1 (set_any (((mk [st_v]).set st_one 1).set st_wide 64) st_count 16 hb3 (by decide)) [48, 64, 50, 51, 52] [48, 64, 50, 51, 52, 72] 12 72 5 rfl rfl rfl rfl rfl rfl rfl rfl Try.func46 rfl rfl rfl rfl ⟨rfl, rfl, rfl, rfl, rfl, trivial⟩ rfl rfl ?_
    have hb4 := ok_set st_count 16 hb3
    refine s1 13 80 6 rfl rfl rfl rfl rfl rfl trivial ?_
    refine c1 (set_any ((((mk [st_v]).set st_one 1).set st_wide 64).set st_count 16) st_all places hb4 (by decide)) [48, 72, 50, 51, 52] [48, 72, 50, 51, 52, 88] 14 88 7 rfl rfl rfl rfl rfl rfl rfl rfl Try.func46 rfl rfl rfl rfl ⟨rfl, rfl, rfl, rfl, rfl, trivial⟩ rfl rfl ?_
    have hb5 := ok_set st_all places hb4
    refine s1 4 96 8 rfl rfl rfl rfl rfl rfl trivial ?_
    refine e1 104 rfl ?_
    refine keep [4] rfl ?_
    refine r1 ?_
    refine s1 15 104 1 rfl rfl rfl rfl rfl rfl trivial ?_
    refine c1 (mark_any (((((mk [st_v]).set st_one 1).set st_wide 64).set st_count 16).set st_all places) st_again hb5 (by decide)) [48, 88, 50, 51, 52] [48, 88, 50, 51, 52] 16 112 2 rfl rfl rfl rfl rfl rfl rfl rfl Try.func53 rfl rfl rfl rfl ⟨rfl, rfl, rfl, rfl, rfl, trivial⟩ rfl rfl ?_
    have hb6 := ok_mark st_again hb5
    refine c1 (word_any ((((((mk [st_v]).set st_one 1).set st_wide 64).set st_count 16).set st_all places).mark st_again) 13 st_now st_base 0 hb6 (by decide)) [48, 88, 50, 51, 52] [48, 88, 50, 51, 52, 120] 17 120 3 rfl rfl rfl rfl rfl rfl rfl rfl Try.func52 rfl rfl rfl rfl ⟨rfl, rfl, rfl, rfl, rfl, trivial⟩ rfl rfl ?_
    have hb7 := ok_word 13 st_now st_base 0 hb6
    refine c1 (doo_any (((((((mk [st_v]).set st_one 1).set st_wide 64).set st_count 16).set st_all places).mark st_again).word 13 st_now st_base 0) 7 st_n st_now st_count hb7 (by decide)) [48, 120, 50, 51, 52] [48, 120, 50, 51, 52, 128] 18 128 4 rfl rfl rfl rfl rfl rfl rfl rfl Try.func54 rfl rfl rfl rfl ⟨rfl, rfl, rfl, rfl, rfl, trivial⟩ rfl rfl ?_
    have hb8 := ok_doo 7 st_n st_now st_count hb7
    refine c1 (doo_any ((((((((mk [st_v]).set st_one 1).set st_wide 64).set st_count 16).set st_all places).mark st_again).word 13 st_now st_base 0).doo 7 st_n st_now st_count) 8 st_full st_n st_all hb8 (by decide)) [48, 128, 50, 51, 52] [48, 128, 50, 51, 52, 136] 19 136 5 rfl rfl rfl rfl rfl rfl rfl rfl Try.func54 rfl rfl rfl rfl ⟨rfl, rfl, rfl, rfl, rfl, trivial⟩ rfl rfl ?_
    have hb9 := ok_doo 8 st_full st_n st_all hb8
    refine c1 (iff_any (((((((((mk [st_v]).set st_one 1).set st_wide 64).set st_count 16).set st_all places).mark st_again).word 13 st_now st_base 0).doo 7 st_n st_now st_count).doo 8 st_full st_n st_all) 11 st_full st_no hb9 (by decide)) [48, 136, 50, 51, 52] [48, 136, 50, 51, 52, 144, 145] 20 144 6 rfl rfl rfl rfl rfl rfl rfl rfl Try.func55 rfl rfl rfl rfl ⟨rfl, rfl, rfl, rfl, rfl, trivial⟩ rfl rfl ?_
    have hb10 := ok_iff 11 st_full st_no hb9
    refine e1 152 rfl ?_
    refine keep [4] rfl ?_
    refine r1 ?_
    refine s1 21 152 1 rfl rfl rfl rfl rfl rfl trivial ?_
    refine c1 (doo_any ((((((((((mk [st_v]).set st_one 1).set st_wide 64).set st_count 16).set st_all places).mark st_again).word 13 st_now st_base 0).doo 7 st_n st_now st_count).doo 8 st_full st_n st_all).iff 11 st_full st_no) 5 st_more st_v st_count hb10 (by decide)) [48, 145, 50, 144, 52] [48, 145, 50, 144, 52, 160] 22 160 2 rfl rfl rfl rfl rfl rfl rfl rfl Try.func54 rfl rfl rfl rfl ⟨rfl, rfl, rfl, rfl, rfl, trivial⟩ rfl rfl ?_
    have hb11 := ok_doo 5 st_more st_v st_count hb10
    refine c1 (mark_any (((((((((((mk [st_v]).set st_one 1).set st_wide 64).set st_count 16).set st_all places).mark st_again).word 13 st_now st_base 0).doo 7 st_n st_now st_count).doo 8 st_full st_n st_all).iff 11 st_full st_no).doo 5 st_more st_v st_count) st_up hb11 (by decide)) [48, 160, 50, 144, 52] [48, 160, 50, 144, 52] 23 168 3 rfl rfl rfl rfl rfl rfl rfl rfl Try.func53 rfl rfl rfl rfl ⟨rfl, rfl, rfl, rfl, rfl, trivial⟩ rfl rfl ?_
    have hb12 := ok_mark st_up hb11
    refine c1 (iff_any ((((((((((((mk [st_v]).set st_one 1).set st_wide 64).set st_count 16).set st_all places).mark st_again).word 13 st_now st_base 0).doo 7 st_n st_now st_count).doo 8 st_full st_n st_all).iff 11 st_full st_no).doo 5 st_more st_v st_count).mark st_up) 12 st_n st_there hb12 (by decide)) [48, 160, 50, 144, 52] [48, 160, 50, 144, 52, 176, 177] 24 176 4 rfl rfl rfl rfl rfl rfl rfl rfl Try.func55 rfl rfl rfl rfl ⟨rfl, rfl, rfl, rfl, rfl, trivial⟩ rfl rfl ?_
    have hb13 := ok_iff 12 st_n st_there hb12
    refine c1 (doo_any (((((((((((((mk [st_v]).set st_one 1).set st_wide 64).set st_count 16).set st_all places).mark st_again).word 13 st_now st_base 0).doo 7 st_n st_now st_count).doo 8 st_full st_n st_all).iff 11 st_full st_no).doo 5 st_more st_v st_count).mark st_up).iff 12 st_n st_there) 5 st_more st_more st_wide hb13 (by decide)) [48, 177, 50, 176, 52] [48, 177, 50, 176, 52, 184] 25 184 5 rfl rfl rfl rfl rfl rfl rfl rfl Try.func54 rfl rfl rfl rfl ⟨rfl, rfl, rfl, rfl, rfl, trivial⟩ rfl rfl ?_
    have hb14 := ok_doo 5 st_more st_more st_wide hb13
    refine c1 (doo_any ((((((((((((((mk [st_v]).set st_one 1).set st_wide 64).set st_count 16).set st_all places).mark st_again).word 13 st_now st_base 0).doo 7 st_n st_now st_count).doo 8 st_full st_n st_all).iff 11 st_full st_no).doo 5 st_more st_v st_count).mark st_up).iff 12 st_n st_there).doo 5 st_more st_more st_wide) 4 st_n st_n st_one hb14 (by decide)) [48, 184, 50, 176, 52] [48, 184, 50, 176, 52, 192] 26 192 6 rfl rfl rfl rfl rfl rfl rfl rfl Try.func54 rfl rfl rfl rfl ⟨rfl, rfl, rfl, rfl, rfl, trivial⟩ rfl rfl ?_
    have hb15 := ok_doo 4 st_n st_n st_one hb14
    refine c1 (jmp_any (((((((((((((((mk [st_v]).set st_one 1).set st_wide 64).set st_count 16).set st_all places).mark st_again).word 13 st_now st_base 0).doo 7 st_n st_now st_count).doo 8 st_full st_n st_all).iff 11 st_full st_no).doo 5 st_more st_v st_count).mark st_up).iff 12 st_n st_there).doo 5 st_more st_more st_wide).doo 4 st_n st_n st_one) st_up hb15 (by decide)) [48, 192, 50, 176, 52] [48, 192, 50, 176, 52, 200, 201] 27 200 7 rfl rfl rfl rfl rfl rfl rfl rfl Try.func65 rfl rfl rfl rfl ⟨rfl, rfl, rfl, rfl, rfl, trivial⟩ rfl rfl ?_
    have hb16 := ok_jmp st_up hb15
    refine e1 208 rfl ?_
    refine keep [4] rfl ?_
    refine r1 ?_
    refine s1 28 208 1 rfl rfl rfl rfl rfl rfl trivial ?_
    refine c1 (mark_any ((((((((((((((((mk [st_v]).set st_one 1).set st_wide 64).set st_count 16).set st_all places).mark st_again).word 13 st_now st_base 0).doo 7 st_n st_now st_count).doo 8 st_full st_n st_all).iff 11 st_full st_no).doo 5 st_more st_v st_count).mark st_up).iff 12 st_n st_there).doo 5 st_more st_more st_wide).doo 4 st_n st_n st_one).jmp st_up) st_there hb16 (by decide)) [48, 201, 50, 200, 52] [48, 201, 50, 200, 52] 29 216 2 rfl rfl rfl rfl rfl rfl rfl rfl Try.func53 rfl rfl rfl rfl ⟨rfl, rfl, rfl, rfl, rfl, trivial⟩ rfl rfl ?_
    have hb17 := ok_mark st_there hb16
    refine c1 (doo_any (((((((((((((((((mk [st_v]).set st_one 1).set st_wide 64).set st_count 16).set st_all places).mark st_again).word 13 st_now st_base 0).doo 7 st_n st_now st_count).doo 8 st_full st_n st_all).iff 11 st_full st_no).doo 5 st_more st_v st_count).mark st_up).iff 12 st_n st_there).doo 5 st_more st_more st_wide).doo 4 st_n st_n st_one).jmp st_up).mark st_there) 3 st_next st_now st_more hb17 (by decide)) [48, 201, 50, 200, 52] [48, 201, 50, 200, 52, 224] 30 224 3 rfl rfl rfl rfl rfl rfl rfl rfl Try.func54 rfl rfl rfl rfl ⟨rfl, rfl, rfl, rfl, rfl, trivial⟩ rfl rfl ?_
    have hb18 := ok_doo 3 st_next st_now st_more hb17
    refine c1 (doo_any ((((((((((((((((((mk [st_v]).set st_one 1).set st_wide 64).set st_count 16).set st_all places).mark st_again).word 13 st_now st_base 0).doo 7 st_n st_now st_count).doo 8 st_full st_n st_all).iff 11 st_full st_no).doo 5 st_more st_v st_count).mark st_up).iff 12 st_n st_there).doo 5 st_more st_more st_wide).doo 4 st_n st_n st_one).jmp st_up).mark st_there).doo 3 st_next st_now st_more) 3 st_next st_next st_one hb18 (by decide)) [48, 224, 50, 200, 52] [48, 224, 50, 200, 52, 232] 31 232 4 rfl rfl rfl rfl rfl rfl rfl rfl Try.func54 rfl rfl rfl rfl ⟨rfl, rfl, rfl, rfl, rfl, trivial⟩ rfl rfl ?_
    have hb19 := ok_doo 3 st_next st_next st_one hb18
    refine c1 (cas_any (((((((((((((((((((mk [st_v]).set st_one 1).set st_wide 64).set st_count 16).set st_all places).mark st_again).word 13 st_now st_base 0).doo 7 st_n st_now st_count).doo 8 st_full st_n st_all).iff 11 st_full st_no).doo 5 st_more st_v st_count).mark st_up).iff 12 st_n st_there).doo 5 st_more st_more st_wide).doo 4 st_n st_n st_one).jmp st_up).mark st_there).doo 3 st_next st_now st_more).doo 3 st_next st_next st_one) st_next st_base 0 st_now hb19 (by decide)) [48, 232, 50, 200, 52] [48, 232, 50, 200, 52, 240] 32 240 5 rfl rfl rfl rfl rfl rfl rfl rfl Try.func47 rfl rfl rfl rfl ⟨rfl, rfl, rfl, rfl, rfl, trivial⟩ rfl rfl ?_
    have hb20 := ok_cas st_next st_base 0 st_now hb19
    refine c1 (iff_any ((((((((((((((((((((mk [st_v]).set st_one 1).set st_wide 64).set st_count 16).set st_all places).mark st_again).word 13 st_now st_base 0).doo 7 st_n st_now st_count).doo 8 st_full st_n st_all).iff 11 st_full st_no).doo 5 st_more st_v st_count).mark st_up).iff 12 st_n st_there).doo 5 st_more st_more st_wide).doo 4 st_n st_n st_one).jmp st_up).mark st_there).doo 3 st_next st_now st_more).doo 3 st_next st_next st_one).cas st_next st_base 0 st_now) 12 st_next st_again hb20 (by decide)) [48, 240, 50, 200, 52] [48, 240, 50, 200, 52, 248, 249] 33 248 6 rfl rfl rfl rfl rfl rfl rfl rfl Try.func55 rfl rfl rfl rfl ⟨rfl, rfl, rfl, rfl, rfl, trivial⟩ rfl rfl ?_
    have hb21 := ok_iff 12 st_next st_again hb20
    refine e1 256 rfl ?_
    refine keep [4] rfl ?_
    refine r1 ?_
    refine s1 34 256 1 rfl rfl rfl rfl rfl rfl trivial ?_
    refine sLit 1 (strsF [st_one]) 35 264 2 rfl rfl rfl rfl rfl rfl rfl rfl rfl (by intro i c hi hc; obtain rfl : i = 0 := (by omega); obtain rfl : c = 0 := (by omega); rfl) ?_
    refine c1 (tell_any (((((((((((((((((((((mk [st_v]).set st_one 1).set st_wide 64).set st_count 16).set st_all places).mark st_again).word 13 st_now st_base 0).doo 7 st_n st_now st_count).doo 8 st_full st_n st_all).iff 11 st_full st_no).doo 5 st_more st_v st_count).mark st_up).iff 12 st_n st_there).doo 5 st_more st_more st_wide).doo 4 st_n st_n st_one).jmp st_up).mark st_there).doo 3 st_next st_now st_more).doo 3 st_next st_next st_one).cas st_next st_base 0 st_now).iff 12 st_next st_again) st_one hb21 (by decide)) [48, 249, 50, 248, 52] [48, 249, 50, 248, 52, 272] 36 272 3 rfl rfl rfl rfl rfl rfl rfl rfl Try.func48 rfl rfl rfl rfl ⟨rfl, rfl, rfl, rfl, rfl, trivial⟩ rfl rfl ?_
    have hb22 := ok_tell st_one hb21
    refine c1 (done_any ((((((((((((((((((((((mk [st_v]).set st_one 1).set st_wide 64).set st_count 16).set st_all places).mark st_again).word 13 st_now st_base 0).doo 7 st_n st_now st_count).doo 8 st_full st_n st_all).iff 11 st_full st_no).doo 5 st_more st_v st_count).mark st_up).iff 12 st_n st_there).doo 5 st_more st_more st_wide).doo 4 st_n st_n st_one).jmp st_up).mark st_there).doo 3 st_next st_now st_more).doo 3 st_next st_next st_one).cas st_next st_base 0 st_now).iff 12 st_next st_again).tell st_one)  hb22 (by decide)) [48, 272, 50, 248, 52] [48, 272, 50, 248, 52, 280] 37 280 4 rfl rfl rfl rfl rfl rfl rfl rfl Try.func63 rfl rfl rfl rfl ⟨rfl, rfl, rfl, rfl, rfl, trivial⟩ rfl rfl ?_
    have hb23 := ok_done  hb22
    refine c1 (mark_any ((((((((((((((((((((((mk [st_v]).set st_one 1).set st_wide 64).set st_count 16).set st_all places).mark st_again).word 13 st_now st_base 0).doo 7 st_n st_now st_count).doo 8 st_full st_n st_all).iff 11 st_full st_no).doo 5 st_more st_v st_count).mark st_up).iff 12 st_n st_there).doo 5 st_more st_more st_wide).doo 4 st_n st_n st_one).jmp st_up).mark st_there).doo 3 st_next st_now st_more).doo 3 st_next st_next st_one).cas st_next st_base 0 st_now).iff 12 st_next st_again).tell st_one).done st_no hb23 (by decide)) [48, 280, 50, 248, 52] [48, 280, 50, 248, 52] 38 288 5 rfl rfl rfl rfl rfl rfl rfl rfl Try.func53 rfl rfl rfl rfl ⟨rfl, rfl, rfl, rfl, rfl, trivial⟩ rfl rfl ?_
    have hb24 := ok_mark st_no hb23
    refine sLit 1 (strsF [st_base]) 39 296 6 rfl rfl rfl rfl rfl rfl rfl rfl rfl (by intro i c hi hc; obtain rfl : i = 0 := (by omega); obtain rfl : c = 0 := (by omega); rfl) ?_
    refine c1 (tell_any (((((((((((((((((((((((mk [st_v]).set st_one 1).set st_wide 64).set st_count 16).set st_all places).mark st_again).word 13 st_now st_base 0).doo 7 st_n st_now st_count).doo 8 st_full st_n st_all).iff 11 st_full st_no).doo 5 st_more st_v st_count).mark st_up).iff 12 st_n st_there).doo 5 st_more st_more st_wide).doo 4 st_n st_n st_one).jmp st_up).mark st_there).doo 3 st_next st_now st_more).doo 3 st_next st_next st_one).cas st_next st_base 0 st_now).iff 12 st_next st_again).tell st_one).done.mark st_no) st_base hb24 (by decide)) [48, 280, 50, 248, 52] [48, 280, 50, 248, 52, 304] 40 304 7 rfl rfl rfl rfl rfl rfl rfl rfl Try.func48 rfl rfl rfl rfl ⟨rfl, rfl, rfl, rfl, rfl, trivial⟩ rfl rfl ?_
    have hb25 := ok_tell st_base hb24
    refine c1 (ops_any ((((((((((((((((((((((((mk [st_v]).set st_one 1).set st_wide 64).set st_count 16).set st_all places).mark st_again).word 13 st_now st_base 0).doo 7 st_n st_now st_count).doo 8 st_full st_n st_all).iff 11 st_full st_no).doo 5 st_more st_v st_count).mark st_up).iff 12 st_n st_there).doo 5 st_more st_more st_wide).doo 4 st_n st_n st_one).jmp st_up).mark st_there).doo 3 st_next st_now st_more).doo 3 st_next st_next st_one).cas st_next st_base 0 st_now).iff 12 st_next st_again).tell st_one).done.mark st_no).tell st_base) hb25 (by decide)) [48, 304, 50, 248, 52] [48, 304, 50, 248, 52] 41 312 8 rfl rfl rfl rfl rfl rfl rfl rfl Try.func49 rfl rfl rfl rfl ⟨rfl, rfl, rfl, rfl, rfl, trivial⟩ rfl rfl ?_
    refine s1 2 320 9 rfl rfl rfl rfl rfl rfl trivial ?_
    refine s1 3 328 10 rfl rfl rfl rfl rfl rfl trivial ?_
    refine e1 336 rfl ?_
    refine keep [2, 3] rfl ?_
    refine W_ret ?_
    exact out2 2 3 (.sl 0 0 (fin (B_Put places)).length) (SV.i 0) (π := [304]) (hout := [some (.rows 42 5 (fin (B_Put places)).length (insF (fin (B_Put places))))]) Try.results35 rfl rfl rfl rfl rfl rfl ⟨rfl, trivial⟩ ⟨rfl, rfl⟩

theorem ok_Put {places : Int} (h : 1 ≤ places ∧ places ≤ 8) : mayB (fin (B_Put places)) = true ∧ 0 < (fin (B_Put places)).length ∧ (fin (B_Put places)).length ≤ 1000 := by
  obtain rfl | rfl | rfl | rfl | rfl | rfl | rfl | rfl : places = 1 ∨ places = 2 ∨ places = 3 ∨ places = 4 ∨ places = 5 ∨ places = 6 ∨ places = 7 ∨ places = 8 := (by omega)
  all_goals decide +kernel

def B_Take (places : Int) : Bld := ((((((((((((((((((((mk []).set st_one 1).set st_wide 64).set st_count 16).mark st_again).word 13 st_now st_base 0).doo 7 st_n st_now st_count).iff 12 st_n st_no).doo 6 st_rest st_now st_count).doo 7 st_v st_rest st_wide).doo 6 st_rest st_rest st_wide).doo 5 st_next st_rest st_count).doo 3 st_next st_next st_n).doo 4 st_next st_next st_one).cas st_next st_base 0 st_now).iff 12 st_next st_again).tell st_v).done.mark st_no).set st_v (-1)).tell st_v)
theorem yes_Take (places : Int) (hr : 1 ≤ places ∧ places ≤ 8) : Spec Try.prog GV 36 [SV.i places] [] (fun r ho => r = SV.tup [.sl 0 0 (fin (B_Take places)).length, SV.i 0] ∧ ho = [some (.rows 42 5 (fin (B_Take places)).length (insF (fin (B_Take places))))]) := by
  refine start 37 0 Try.func36 rfl rfl rfl rfl ?_
  refine r1 ?_
  refine s1 2 0 1 rfl rfl rfl rfl rfl rfl trivial ?_
  refine s1 3 8 2 rfl rfl rfl rfl rfl rfl trivial ?_
  refine e1 16 rfl ?_
  refine keep [0] rfl ?_
  refine W_seq ?_
  refine r1 ?_
  refine s1 5 16 1 rfl rfl rfl rfl rfl rfl trivial ?_
  refine c1 (may_any places) [] [] 6 24 2 rfl rfl rfl rfl rfl rfl rfl rfl Try.func64 rfl rfl rfl rfl trivial rfl rfl ?_
  refine s1 7 32 3 rfl rfl rfl rfl rfl rfl trivial ?_
  refine e1 40 rfl ?_
  refine keep [7] rfl ?_
  refine q1 rfl (fun hc1 => ?_) (fun hc1 => ?_)
  · skip
    exfalso; simp at hc1; omega
  · skip
    try simp only [decide_eq_true_eq, decide_eq_false_iff_not, Bool.not_eq_true', Bool.not_eq_false', beq_iff_eq, bne_iff_ne, beq_eq_false_iff_ne, Bool.and_eq_true, Bool.or_eq_true, Bool.and_eq_false_iff, Bool.or_eq_false_iff, ge_iff_le, gt_iff_lt, Int.not_lt, Int.not_le, ne_eq, Decidable.not_not, bne_eq_false_iff_eq] at hc1
    refine W_skip ?_
    refine tn ?_
    refine r1 ?_
    refine c1 (nil_any) [] [40, 41, 42, 43, 44] 8 40 1 rfl rfl rfl rfl rfl rfl rfl rfl Try.func45 rfl rfl rfl rfl trivial rfl rfl ?_
    have hb1 := ok_mk []
    refine c1 (set_any (mk []) st_one 1 hb1 (by decide)) [40, 41, 42, 43, 44] [40, 41, 42, 43, 44, 48] 9 48 2 rfl rfl rfl rfl rfl rfl rfl rfl Try.func46 rfl rfl rfl rfl ⟨rfl, rfl, rfl, rfl, rfl, trivial⟩ rfl rfl ?_
    have hb2 := ok_set st_one 1 hb1
    refine c1 (set_any ((mk []).set st_one 1) st_wide 64 hb2 (by decide)) [40, 48, 42, 43, 44] [40, 48, 42, 43, 44, 56] 10 56 3 rfl rfl rfl rfl rfl rfl rfl rfl Try.func46 rfl rfl rfl rfl ⟨rfl, rfl, rfl, rfl, rfl, trivial⟩ rfl rfl ?_
    have hb3 := ok_set st_wide 64 hb2
    refine c1 (set_any (((mk []).set st_one 1).set st_wide 64) st_count 16 hb3 (by decide)) [40, 56, 42, 43, 44] [40, 56, 42, 43, 44, 64] 11 64 4 rfl rfl rfl rfl rfl rfl rfl rfl Try.func46 rfl rfl rfl rfl ⟨rfl, rfl, rfl, rfl, rfl, trivial⟩ rfl rfl ?_
    have hb4 := ok_set st_count 16 hb3
    refine s1 4 72 5 rfl rfl rfl rfl rfl rfl trivial ?_
    refine e1 80 rfl ?_
    refine keep [4] rfl ?_
    refine r1 ?_
    refine s1 12 80 1 rfl rfl rfl rfl rfl rfl trivial ?_
    refine c1 (mark_any ((((mk []).set st_one 1).set st_wide 64).set st_count 16) st_again hb4 (by decide)) [40, 64, 42, 43, 44] [40, 64, 42, 43, 44] 13 88 2 rfl rfl rfl rfl rfl rfl rfl rfl Try.func53 rfl rfl rfl rfl ⟨rfl, rfl, rfl, rfl, rfl, trivial⟩ rfl rfl ?_
    have hb5 := ok_mark st_again hb4
    refine c1 (word_any (((((mk []).set st_one 1).set st_wide 64).set st_count 16).mark st_again) 13 st_now st_base 0 hb5 (by decide)) [40, 64, 42, 43, 44] [40, 64, 42, 43, 44, 96] 14 96 3 rfl rfl rfl rfl rfl rfl rfl rfl Try.func52 rfl rfl rfl rfl ⟨rfl, rfl, rfl, rfl, rfl, trivial⟩ rfl rfl ?_
    have hb6 := ok_word 13 st_now st_base 0 hb5
    refine c1 (doo_any ((((((mk []).set st_one 1).set st_wide 64).set st_count 16).mark st_again).word 13 st_now st_base 0) 7 st_n st_now st_count hb6 (by decide)) [40, 96, 42, 43, 44] [40, 96, 42, 43, 44, 104] 15 104 4 rfl rfl rfl rfl rfl rfl rfl rfl Try.func54 rfl rfl rfl rfl ⟨rfl, rfl, rfl, rfl, rfl, trivial⟩ rfl rfl ?_
    have hb7 := ok_doo 7 st_n st_now st_count hb6
    refine c1 (iff_any (((((((mk []).set st_one 1).set st_wide 64).set st_count 16).mark st_again).word 13 st_now st_base 0).doo 7 st_n st_now st_count) 12 st_n st_no hb7 (by decide)) [40, 104, 42, 43, 44] [40, 104, 42, 43, 44, 112, 113] 16 112 5 rfl rfl rfl rfl rfl rfl rfl rfl Try.func55 rfl rfl rfl rfl ⟨rfl, rfl, rfl, rfl, rfl, trivial⟩ rfl rfl ?_
    have hb8 := ok_iff 12 st_n st_no hb7
    refine e1 120 rfl ?_
    refine keep [4] rfl ?_
    refine r1 ?_
    refine s1 17 120 1 rfl rfl rfl rfl rfl rfl trivial ?_
    refine c1 (doo_any ((((((((mk []).set st_one 1).set st_wide 64).set st_count 16).mark st_again).word 13 st_now st_base 0).doo 7 st_n st_now st_count).iff 12 st_n st_no) 6 st_rest st_now st_count hb8 (by decide)) [40, 113, 42, 112, 44] [40, 113, 42, 112, 44, 128] 18 128 2 rfl rfl rfl rfl rfl rfl rfl rfl Try.func54 rfl rfl rfl rfl ⟨rfl, rfl, rfl, rfl, rfl, trivial⟩ rfl rfl ?_
    have hb9 := ok_doo 6 st_rest st_now st_count hb8
    refine c1 (doo_any (((((((((mk []).set st_one 1).set st_wide 64).set st_count 16).mark st_again).word 13 st_now st_base 0).doo 7 st_n st_now st_count).iff 12 st_n st_no).doo 6 st_rest st_now st_count) 7 st_v st_rest st_wide hb9 (by decide)) [40, 128, 42, 112, 44] [40, 128, 42, 112, 44, 136] 19 136 3 rfl rfl rfl rfl rfl rfl rfl rfl Try.func54 rfl rfl rfl rfl ⟨rfl, rfl, rfl, rfl, rfl, trivial⟩ rfl rfl ?_
    have hb10 := ok_doo 7 st_v st_rest st_wide hb9
    refine c1 (doo_any ((((((((((mk []).set st_one 1).set st_wide 64).set st_count 16).mark st_again).word 13 st_now st_base 0).doo 7 st_n st_now st_count).iff 12 st_n st_no).doo 6 st_rest st_now st_count).doo 7 st_v st_rest st_wide) 6 st_rest st_rest st_wide hb10 (by decide)) [40, 136, 42, 112, 44] [40, 136, 42, 112, 44, 144] 20 144 4 rfl rfl rfl rfl rfl rfl rfl rfl Try.func54 rfl rfl rfl rfl ⟨rfl, rfl, rfl, rfl, rfl, trivial⟩ rfl rfl ?_
    have hb11 := ok_doo 6 st_rest st_rest st_wide hb10
    refine e1 152 rfl ?_
    refine keep [4] rfl ?_
    refine r1 ?_
    refine s1 21 152 1 rfl rfl rfl rfl rfl rfl trivial ?_
    refine c1 (doo_any (((((((((((mk []).set st_one 1).set st_wide 64).set st_count 16).mark st_again).word 13 st_now st_base 0).doo 7 st_n st_now st_count).iff 12 st_n st_no).doo 6 st_rest st_now st_count).doo 7 st_v st_rest st_wide).doo 6 st_rest st_rest st_wide) 5 st_next st_rest st_count hb11 (by decide)) [40, 144, 42, 112, 44] [40, 144, 42, 112, 44, 160] 22 160 2 rfl rfl rfl rfl rfl rfl rfl rfl Try.func54 rfl rfl rfl rfl ⟨rfl, rfl, rfl, rfl, rfl, trivial⟩ rfl rfl ?_
    have hb12 := ok_doo 5 st_next st_rest st_count hb11
    refine c1 (doo_any ((((((((((((mk []).set st_one 1).set st_wide 64).set st_count 16).mark st_again).word 13 st_now st_base 0).doo 7 st_n st_now st_count).iff 12 st_n st_no).doo 6 st_rest st_now st_count).doo 7 st_v st_rest st_wide).doo 6 st_rest st_rest st_wide).doo 5 st_next st_rest st_count) 3 st_next st_next st_n hb12 (by decide)) [40, 160, 42, 112, 44] [40, 160, 42, 112, 44, 168] 23 168 3 rfl rfl rfl rfl rfl rfl rfl rfl Try.func54 rfl rfl rfl rfl ⟨rfl, rfl, rfl, rfl, rfl, trivial⟩ rfl rfl ?_
    have hb13 := ok_doo 3 st_next st_next st_n hb12
    refine c1 (doo_any (((((((((((((mk []).set st_one 1).set st_wide 64).set st_count 16).mark st_again).word 13 st_now st_base 0).doo 7 st_n st_now st_count).iff 12 st_n st_no).doo 6 st_rest st_now st_count).doo 7 st_v st_rest st_wide).doo 6 st_rest st_rest st_wide).doo 5 st_next st_rest st_count).doo 3 st_next st_next st_n) 4 st_next st_next st_one hb13 (by decide)) [40, 168, 42, 112, 44] [40, 168, 42, 112, 44, 176] 24 176 4 rfl rfl rfl rfl rfl rfl rfl rfl Try.func54 rfl rfl rfl rfl ⟨rfl, rfl, rfl, rfl, rfl, trivial⟩ rfl rfl ?_
    have hb14 := ok_doo 4 st_next st_next st_one hb13
    refine e1 184 rfl ?_
    refine keep [4] rfl ?_
    refine r1 ?_
    refine s1 25 184 1 rfl rfl rfl rfl rfl rfl trivial ?_
    refine c1 (cas_any ((((((((((((((mk []).set st_one 1).set st_wide 64).set st_count 16).mark st_again).word 13 st_now st_base 0).doo 7 st_n st_now st_count).iff 12 st_n st_no).doo 6 st_rest st_now st_count).doo 7 st_v st_rest st_wide).doo 6 st_rest st_rest st_wide).doo 5 st_next st_rest st_count).doo 3 st_next st_next st_n).doo 4 st_next st_next st_one) st_next st_base 0 st_now hb14 (by decide)) [40, 176, 42, 112, 44] [40, 176, 42, 112, 44, 192] 26 192 2 rfl rfl rfl rfl rfl rfl rfl rfl Try.func47 rfl rfl rfl rfl ⟨rfl, rfl, rfl, rfl, rfl, trivial⟩ rfl rfl ?_
    have hb15 := ok_cas st_next st_base 0 st_now hb14
    refine c1 (iff_any (((((((((((((((mk []).set st_one 1).set st_wide 64).set st_count 16).mark st_again).word 13 st_now st_base 0).doo 7 st_n st_now st_count).iff 12 st_n st_no).doo 6 st_rest st_now st_count).doo 7 st_v st_rest st_wide).doo 6 st_rest st_rest st_wide).doo 5 st_next st_rest st_count).doo 3 st_next st_next st_n).doo 4 st_next st_next st_one).cas st_next st_base 0 st_now) 12 st_next st_again hb15 (by decide)) [40, 192, 42, 112, 44] [40, 192, 42, 112, 44, 200, 201] 27 200 3 rfl rfl rfl rfl rfl rfl rfl rfl Try.func55 rfl rfl rfl rfl ⟨rfl, rfl, rfl, rfl, rfl, trivial⟩ rfl rfl ?_
    have hb16 := ok_iff 12 st_next st_again hb15
    refine e1 208 rfl ?_
    refine keep [4] rfl ?_
    refine r1 ?_
    refine s1 28 208 1 rfl rfl rfl rfl rfl rfl trivial ?_
    refine sLit 1 (strsF [st_v]) 29 216 2 rfl rfl rfl rfl rfl rfl rfl rfl rfl (by intro i c hi hc; obtain rfl : i = 0 := (by omega); obtain rfl : c = 0 := (by omega); rfl) ?_
    refine c1 (tell_any ((((((((((((((((mk []).set st_one 1).set st_wide 64).set st_count 16).mark st_again).word 13 st_now st_base 0).doo 7 st_n st_now st_count).iff 12 st_n st_no).doo 6 st_rest st_now st_count).doo 7 st_v st_rest st_wide).doo 6 st_rest st_rest st_wide).doo 5 st_next st_rest st_count).doo 3 st_next st_next st_n).doo 4 st_next st_next st_one).cas st_next st_base 0 st_now).iff 12 st_next st_again) st_v hb16 (by decide)) [40, 201, 42, 200, 44] [40, 201, 42, 200, 44, 224] 30 224 3 rfl rfl rfl rfl rfl rfl rfl rfl Try.func48 rfl rfl rfl rfl ⟨rfl, rfl, rfl, rfl, rfl, trivial⟩ rfl rfl ?_
    have hb17 := ok_tell st_v hb16
    refine c1 (done_any (((((((((((((((((mk []).set st_one 1).set st_wide 64).set st_count 16).mark st_again).word 13 st_now st_base 0).doo 7 st_n st_now st_count).iff 12 st_n st_no).doo 6 st_rest st_now st_count).doo 7 st_v st_rest st_wide).doo 6 st_rest st_rest st_wide).doo 5 st_next st_rest st_count).doo 3 st_next st_next st_n).doo 4 st_next st_next st_one).cas st_next st_base 0 st_now).iff 12 st_next st_again).tell st_v)  hb17 (by decide)) [40, 224, 42, 200, 44] [40, 224, 42, 200, 44, 232] 31 232 4 rfl rfl rfl rfl rfl rfl rfl rfl Try.func63 rfl rfl rfl rfl ⟨rfl, rfl, rfl, rfl, rfl, trivial⟩ rfl rfl ?_
    have hb18 := ok_done  hb17
    refine c1 (mark_any (((((((((((((((((mk []).set st_one 1).set st_wide 64).set st_count 16).mark st_again).word 13 st_now st_base 0).doo 7 st_n st_now st_count).iff 12 st_n st_no).doo 6 st_rest st_now st_count).doo 7 st_v st_rest st_wide).doo 6 st_rest st_rest st_wide).doo 5 st_next st_rest st_count).doo 3 st_next st_next st_n).doo 4 st_next st_next st_one).cas st_next st_base 0 st_now).iff 12 st_next st_again).tell st_v).done st_no hb18 (by decide)) [40, 232, 42, 200, 44] [40, 232, 42, 200, 44] 32 240 5 rfl rfl rfl rfl rfl rfl rfl rfl Try.func53 rfl rfl rfl rfl ⟨rfl, rfl, rfl, rfl, rfl, trivial⟩ rfl rfl ?_
    have hb19 := ok_mark st_no hb18
    refine c1 (set_any ((((((((((((((((((mk []).set st_one 1).set st_wide 64).set st_count 16).mark st_again).word 13 st_now st_base 0).doo 7 st_n st_now st_count).iff 12 st_n st_no).doo 6 st_rest st_now st_count).doo 7 st_v st_rest st_wide).doo 6 st_rest st_rest st_wide).doo 5 st_next st_rest st_count).doo 3 st_next st_next st_n).doo 4 st_next st_next st_one).cas st_next st_base 0 st_now).iff 12 st_next st_again).tell st_v).done.mark st_no) st_v (-1) hb19 (by decide)) [40, 232, 42, 200, 44] [40, 232, 42, 200, 44, 248] 33 248 6 rfl rfl rfl rfl rfl rfl rfl rfl Try.func46 rfl rfl rfl rfl ⟨rfl, rfl, rfl, rfl, rfl, trivial⟩ rfl rfl ?_
    have hb20 := ok_set st_v (-1) hb19
    refine sLit 1 (strsF [st_v]) 34 256 7 rfl rfl rfl rfl rfl rfl rfl rfl rfl (by intro i c hi hc; obtain rfl : i = 0 := (by omega); obtain rfl : c = 0 := (by omega); rfl) ?_
    refine c1 (tell_any (((((((((((((((((((mk []).set st_one 1).set st_wide 64).set st_count 16).mark st_again).word 13 st_now st_base 0).doo 7 st_n st_now st_count).iff 12 st_n st_no).doo 6 st_rest st_now st_count).doo 7 st_v st_rest st_wide).doo 6 st_rest st_rest st_wide).doo 5 st_next st_rest st_count).doo 3 st_next st_next st_n).doo 4 st_next st_next st_one).cas st_next st_base 0 st_now).iff 12 st_next st_again).tell st_v).done.mark st_no).set st_v (-1)) st_v hb20 (by decide)) [40, 248, 42, 200, 44] [40, 248, 42, 200, 44, 264] 35 264 8 rfl rfl rfl rfl rfl rfl rfl rfl Try.func48 rfl rfl rfl rfl ⟨rfl, rfl, rfl, rfl, rfl, trivial⟩ rfl rfl ?_
    have hb21 := ok_tell st_v hb20
    refine c1 (ops_any ((((((((((((((((((((mk []).set st_one 1).set st_wide 64).set st_count 16).mark st_again).word 13 st_now st_base 0).doo 7 st_n st_now st_count).iff 12 st_n st_no).doo 6 st_rest st_now st_count).doo 7 st_v st_rest st_wide).doo 6 st_rest st_rest st_wide).doo 5 st_next st_rest st_count).doo 3 st_next st_next st_n).doo 4 st_next st_next st_one).cas st_next st_base 0 st_now).iff 12 st_next st_again).tell st_v).done.mark st_no).set st_v (-1)).tell st_v) hb21 (by decide)) [40, 264, 42, 200, 44] [40, 264, 42, 200, 44] 36 272 9 rfl rfl rfl rfl rfl rfl rfl rfl Try.func49 rfl rfl rfl rfl ⟨rfl, rfl, rfl, rfl, rfl, trivial⟩ rfl rfl ?_
    refine s1 2 280 10 rfl rfl rfl rfl rfl rfl trivial ?_
    refine s1 3 288 11 rfl rfl rfl rfl rfl rfl trivial ?_
    refine e1 296 rfl ?_
    refine keep [2, 3] rfl ?_
    refine W_ret ?_
    exact out2 2 3 (.sl 0 0 (fin (B_Take places)).length) (SV.i 0) (π := [264]) (hout := [some (.rows 42 5 (fin (B_Take places)).length (insF (fin (B_Take places))))]) Try.results36 rfl rfl rfl rfl rfl rfl ⟨rfl, trivial⟩ ⟨rfl, rfl⟩

theorem ok_Take {places : Int} (h : 1 ≤ places ∧ places ≤ 8) : mayB (fin (B_Take places)) = true ∧ 0 < (fin (B_Take places)).length ∧ (fin (B_Take places)).length ≤ 1000 := by
  obtain rfl | rfl | rfl | rfl | rfl | rfl | rfl | rfl : places = 1 ∨ places = 2 ∨ places = 3 ∨ places = 4 ∨ places = 5 ∨ places = 6 ∨ places = 7 ∨ places = 8 := (by omega)
  all_goals decide +kernel

theorem law_yes (places : Int) (hr : 1 ≤ places ∧ places ≤ 8) : Spec Try.prog GV 10 [SV.i places] [] (fun r _ => r = SV.b true) := by
  refine start 93 0 Try.func10 rfl rfl rfl rfl ?_
  refine r1 ?_
  refine s1 2 0 1 rfl rfl rfl rfl rfl rfl trivial ?_
  refine e1 8 rfl ?_
  refine keep [0] rfl ?_
  refine r1 ?_
  refine s1 10 8 1 rfl rfl rfl rfl rfl rfl trivial ?_
  refine c1 (yes_Words places hr) [] [16] 11 16 2 rfl rfl rfl rfl rfl rfl rfl rfl Try.func34 rfl rfl rfl rfl trivial rfl rfl ?_
  refine s1 9 24 3 rfl rfl rfl rfl rfl rfl trivial ?_
  refine s1 12 32 4 rfl rfl rfl rfl rfl rfl trivial ?_
  refine s1 13 40 5 rfl rfl rfl rfl rfl rfl trivial ?_
  refine s1 3 48 6 rfl rfl rfl rfl rfl rfl trivial ?_
  refine s1 4 56 7 rfl rfl rfl rfl rfl rfl trivial ?_
  refine e1 64 rfl ?_
  refine keep [0, 3, 4] rfl ?_
  refine r1 ?_
  refine s1 15 64 1 rfl rfl rfl rfl rfl rfl trivial ?_
  refine c1 (yes_Put places hr) [] [72] 16 72 2 rfl rfl rfl rfl rfl rfl rfl rfl Try.func35 rfl rfl rfl rfl trivial rfl rfl ?_
  refine s1 14 80 3 rfl rfl rfl rfl rfl rfl trivial ?_
  refine s1 17 88 4 rfl rfl rfl rfl rfl rfl trivial ?_
  refine s1 18 96 5 rfl rfl rfl rfl rfl rfl trivial ?_
  refine s1 5 104 6 rfl rfl rfl rfl rfl rfl trivial ?_
  refine s1 6 112 7 rfl rfl rfl rfl rfl rfl trivial ?_
  refine e1 120 rfl ?_
  refine keep [0, 3, 4, 5, 6] rfl ?_
  refine r1 ?_
  refine s1 20 120 1 rfl rfl rfl rfl rfl rfl trivial ?_
  refine c1 (yes_Take places hr) [] [128] 21 128 2 rfl rfl rfl rfl rfl rfl rfl rfl Try.func36 rfl rfl rfl rfl trivial rfl rfl ?_
  refine s1 19 136 3 rfl rfl rfl rfl rfl rfl trivial ?_
  refine s1 22 144 4 rfl rfl rfl rfl rfl rfl trivial ?_
  refine s1 23 152 5 rfl rfl rfl rfl rfl rfl trivial ?_
  refine s1 7 160 6 rfl rfl rfl rfl rfl rfl trivial ?_
  refine s1 8 168 7 rfl rfl rfl rfl rfl rfl trivial ?_
  refine e1 176 rfl ?_
  refine keep [0, 3, 4, 5, 6, 7, 8] rfl ?_
  refine W_seq ?_
  refine r1 ?_
  refine s1 24 176 1 rfl rfl rfl rfl rfl rfl trivial ?_
  refine s1 25 184 2 rfl rfl rfl rfl rfl rfl (by first | trivial | omega | (simp only [List.length_map, List.length_append, List.length_cons, List.length_nil] at *; omega)) ?_
  refine s1 26 192 3 rfl rfl rfl rfl rfl rfl trivial ?_
  refine ask 26 rfl (fun hg4_26 => ?_) (fun hg4_26 => ?_)
  · skip
    try simp only [decide_eq_true_eq, decide_eq_false_iff_not, Bool.not_eq_true', Bool.not_eq_false', beq_iff_eq, bne_iff_ne, beq_eq_false_iff_ne, Bool.and_eq_true, Bool.or_eq_true, Bool.and_eq_false_iff, Bool.or_eq_false_iff, ge_iff_le, gt_iff_lt, Int.not_lt, Int.not_le, ne_eq, Decidable.not_not, bne_eq_false_iff_eq] at hg4_26
    refine g0 2 false 26 27 4 rfl rfl rfl rfl rfl rfl ?_
    refine g0 2 false 26 28 5 rfl rfl rfl rfl rfl rfl ?_
    refine s1 29 216 6 rfl rfl rfl rfl rfl rfl trivial ?_
    refine e1 224 rfl ?_
    refine keep [3, 4, 5, 6, 7, 8, 29] rfl ?_
    refine q1 rfl (fun hc4 => ?_) (fun hc4 => ?_)
    · skip
      exfalso; simp at hc4; omega
    · skip
      exact absurd hc4 (by decide)
  · skip
    try simp only [decide_eq_true_eq, decide_eq_false_iff_not, Bool.not_eq_true', Bool.not_eq_false', beq_iff_eq, bne_iff_ne, beq_eq_false_iff_ne, Bool.and_eq_true, Bool.or_eq_true, Bool.and_eq_false_iff, Bool.or_eq_false_iff, ge_iff_le, gt_iff_lt, Int.not_lt, Int.not_le, ne_eq, Decidable.not_not, bne_eq_false_iff_eq] at hg4_26
    refine g1 2 false 26 27 4 rfl rfl rfl rfl rfl ?_
    refine s1 27 200 4 rfl rfl rfl rfl rfl rfl trivial ?_
    refine g1 2 false 26 28 5 rfl rfl rfl rfl rfl ?_
    refine s1 28 208 5 rfl rfl rfl rfl rfl rfl (by first | trivial | omega | (simp only [List.length_map, List.length_append, List.length_cons, List.length_nil] at *; omega)) ?_
    refine s1 29 216 6 rfl rfl rfl rfl rfl rfl trivial ?_
    refine e1 224 rfl ?_
    refine keep [3, 4, 5, 6, 7, 8, 29] rfl ?_
    refine q1 rfl (fun hc4 => ?_) (fun hc4 => ?_)
    · skip
      exfalso; simp at hc4; omega
    · skip
      try simp only [decide_eq_true_eq, decide_eq_false_iff_not, Bool.not_eq_true', Bool.not_eq_false', beq_iff_eq, bne_iff_ne, beq_eq_false_iff_ne, Bool.and_eq_true, Bool.or_eq_true, Bool.and_eq_false_iff, Bool.or_eq_false_iff, ge_iff_le, gt_iff_lt, Int.not_lt, Int.not_le, ne_eq, Decidable.not_not, bne_eq_false_iff_eq] at hc4
      refine W_skip ?_
      refine tn ?_
      refine freeze 5 72 (fin (B_Put places)).length rfl rfl (Nat.le_refl _) ?_
      refine freeze 7 128 (fin (B_Take places)).length rfl rfl (Nat.le_refl _) ?_
      have ho0 := ok_Put hr
      have ho1 := ok_Take hr
      refine r1 ?_
      refine s1 55 224 1 rfl rfl rfl rfl rfl rfl trivial ?_
      refine s1 56 232 2 rfl rfl rfl rfl rfl rfl (by first | trivial | omega | (simp only [List.length_map, List.length_append, List.length_cons, List.length_nil] at *; omega)) ?_
      refine s1 57 240 3 rfl rfl rfl rfl rfl rfl trivial ?_
      refine ask 57 rfl (fun hg6_57 => ?_) (fun hg6_57 => ?_)
      · skip
        try simp only [decide_eq_true_eq, decide_eq_false_iff_not, Bool.not_eq_true', Bool.not_eq_false', beq_iff_eq, bne_iff_ne, beq_eq_false_iff_ne, Bool.and_eq_true, Bool.or_eq_true, Bool.and_eq_false_iff, Bool.or_eq_false_iff, ge_iff_le, gt_iff_lt, Int.not_lt, Int.not_le, ne_eq, Decidable.not_not, bne_eq_false_iff_eq] at hg6_57
        refine g1 2 true 57 58 4 rfl rfl rfl rfl rfl ?_
        refine s1 58 248 4 rfl rfl rfl rfl rfl rfl trivial ?_
        refine g1 2 true 57 59 5 rfl rfl rfl rfl rfl ?_
        refine s1 59 256 5 rfl rfl rfl rfl rfl rfl (by first | trivial | omega | (simp only [List.length_map, List.length_append, List.length_cons, List.length_nil] at *; omega)) ?_
        refine s1 60 264 6 rfl rfl rfl rfl rfl rfl trivial ?_
        refine s1 61 272 7 rfl rfl rfl rfl rfl rfl trivial ?_
        refine ask 61 rfl (fun hg6_61 => ?_) (fun hg6_61 => ?_)
        · skip
          try simp only [decide_eq_true_eq, decide_eq_false_iff_not, Bool.not_eq_true', Bool.not_eq_false', beq_iff_eq, bne_iff_ne, beq_eq_false_iff_ne, Bool.and_eq_true, Bool.or_eq_true, Bool.and_eq_false_iff, Bool.or_eq_false_iff, ge_iff_le, gt_iff_lt, Int.not_lt, Int.not_le, ne_eq, Decidable.not_not, bne_eq_false_iff_eq] at hg6_61
          refine g1 6 true 61 62 8 rfl rfl rfl rfl rfl ?_
          refine s1 62 280 8 rfl rfl rfl rfl rfl rfl trivial ?_
          refine g1 6 true 61 63 9 rfl rfl rfl rfl rfl ?_
          refine s1 63 288 9 rfl rfl rfl rfl rfl rfl (by first | trivial | omega | (simp only [List.length_map, List.length_append, List.length_cons, List.length_nil] at *; omega)) ?_
          refine s1 64 296 10 rfl rfl rfl rfl rfl rfl trivial ?_
          refine s1 65 304 11 rfl rfl rfl rfl rfl rfl trivial ?_
          refine ask 65 rfl (fun hg6_65 => ?_) (fun hg6_65 => ?_)
          · skip
            try simp only [decide_eq_true_eq, decide_eq_false_iff_not, Bool.not_eq_true', Bool.not_eq_false', beq_iff_eq, bne_iff_ne, beq_eq_false_iff_ne, Bool.and_eq_true, Bool.or_eq_true, Bool.and_eq_false_iff, Bool.or_eq_false_iff, ge_iff_le, gt_iff_lt, Int.not_lt, Int.not_le, ne_eq, Decidable.not_not, bne_eq_false_iff_eq] at hg6_65
            refine g1 10 true 65 66 12 rfl rfl rfl rfl rfl ?_
            refine s1 66 312 12 rfl rfl rfl rfl rfl rfl trivial ?_
            refine g1 10 true 65 67 13 rfl rfl rfl rfl rfl ?_
            refine s1 67 320 13 rfl rfl rfl rfl rfl rfl (by first | trivial | omega | (simp only [List.length_map, List.length_append, List.length_cons, List.length_nil] at *; omega)) ?_
            refine g1 10 true 65 68 14 rfl rfl rfl rfl rfl ?_
            refine s1 68 328 14 rfl rfl rfl rfl rfl rfl (by first | trivial | omega | (simp only [List.length_map, List.length_append, List.length_cons, List.length_nil] at *; omega)) ?_
            refine s1 69 336 15 rfl rfl rfl rfl rfl rfl trivial ?_
            refine s1 70 344 16 rfl rfl rfl rfl rfl rfl trivial ?_
            refine ask 70 rfl (fun hg6_70 => ?_) (fun hg6_70 => ?_)
            · skip
              try simp only [decide_eq_true_eq, decide_eq_false_iff_not, Bool.not_eq_true', Bool.not_eq_false', beq_iff_eq, bne_iff_ne, beq_eq_false_iff_ne, Bool.and_eq_true, Bool.or_eq_true, Bool.and_eq_false_iff, Bool.or_eq_false_iff, ge_iff_le, gt_iff_lt, Int.not_lt, Int.not_le, ne_eq, Decidable.not_not, bne_eq_false_iff_eq] at hg6_70
              refine g1 15 true 70 71 17 rfl rfl rfl rfl rfl ?_
              refine s1 71 352 17 rfl rfl rfl rfl rfl rfl trivial ?_
              refine g1 15 true 70 72 18 rfl rfl rfl rfl rfl ?_
              refine s1 72 360 18 rfl rfl rfl rfl rfl rfl (by first | trivial | omega | (simp only [List.length_map, List.length_append, List.length_cons, List.length_nil] at *; omega)) ?_
              refine g1 15 true 70 73 19 rfl rfl rfl rfl rfl ?_
              refine s1 73 368 19 rfl rfl rfl rfl rfl rfl (by first | trivial | omega | (simp only [List.length_map, List.length_append, List.length_cons, List.length_nil] at *; omega)) ?_
              refine s1 74 376 20 rfl rfl rfl rfl rfl rfl trivial ?_
              refine s1 75 384 21 rfl rfl rfl rfl rfl rfl trivial ?_
              refine ask 75 rfl (fun hg6_75 => ?_) (fun hg6_75 => ?_)
              · skip
                try simp only [decide_eq_true_eq, decide_eq_false_iff_not, Bool.not_eq_true', Bool.not_eq_false', beq_iff_eq, bne_iff_ne, beq_eq_false_iff_ne, Bool.and_eq_true, Bool.or_eq_true, Bool.and_eq_false_iff, Bool.or_eq_false_iff, ge_iff_le, gt_iff_lt, Int.not_lt, Int.not_le, ne_eq, Decidable.not_not, bne_eq_false_iff_eq] at hg6_75
                refine g1 20 true 75 76 22 rfl rfl rfl rfl rfl ?_
                refine s1 76 392 22 rfl rfl rfl rfl rfl rfl trivial ?_
                refine g1 20 true 75 77 23 rfl rfl rfl rfl rfl ?_
                refine s1 77 400 23 rfl rfl rfl rfl rfl rfl (by first | trivial | omega | (simp only [List.length_map, List.length_append, List.length_cons, List.length_nil] at *; omega)) ?_
                refine g1 20 true 75 78 24 rfl rfl rfl rfl rfl ?_
                refine s1 78 408 24 rfl rfl rfl rfl rfl rfl (by first | trivial | omega | (simp only [List.length_map, List.length_append, List.length_cons, List.length_nil] at *; omega)) ?_
                refine s1 79 416 25 rfl rfl rfl rfl rfl rfl trivial ?_
                refine s1 80 424 26 rfl rfl rfl rfl rfl rfl trivial ?_
                refine ask 80 rfl (fun hg6_80 => ?_) (fun hg6_80 => ?_)
                · skip
                  try simp only [decide_eq_true_eq, decide_eq_false_iff_not, Bool.not_eq_true', Bool.not_eq_false', beq_iff_eq, bne_iff_ne, beq_eq_false_iff_ne, Bool.and_eq_true, Bool.or_eq_true, Bool.and_eq_false_iff, Bool.or_eq_false_iff, ge_iff_le, gt_iff_lt, Int.not_lt, Int.not_le, ne_eq, Decidable.not_not, bne_eq_false_iff_eq] at hg6_80
                  refine g1 25 true 80 81 27 rfl rfl rfl rfl rfl ?_
                  refine s1 81 432 27 rfl rfl rfl rfl rfl rfl trivial ?_
                  refine g1 25 true 80 82 28 rfl rfl rfl rfl rfl ?_
                  refine s1 82 440 28 rfl rfl rfl rfl rfl rfl (by first | trivial | omega | (simp only [List.length_map, List.length_append, List.length_cons, List.length_nil] at *; omega)) ?_
                  refine g1 25 true 80 83 29 rfl rfl rfl rfl rfl ?_
                  refine s1 83 448 29 rfl rfl rfl rfl rfl rfl (by first | trivial | omega | (simp only [List.length_map, List.length_append, List.length_cons, List.length_nil] at *; omega)) ?_
                  refine s1 84 456 30 rfl rfl rfl rfl rfl rfl trivial ?_
                  refine s1 85 464 31 rfl rfl rfl rfl rfl rfl trivial ?_
                  refine ask 85 rfl (fun hg6_85 => ?_) (fun hg6_85 => ?_)
                  · skip
                    try simp only [decide_eq_true_eq, decide_eq_false_iff_not, Bool.not_eq_true', Bool.not_eq_false', beq_iff_eq, bne_iff_ne, beq_eq_false_iff_ne, Bool.and_eq_true, Bool.or_eq_true, Bool.and_eq_false_iff, Bool.or_eq_false_iff, ge_iff_le, gt_iff_lt, Int.not_lt, Int.not_le, ne_eq, Decidable.not_not, bne_eq_false_iff_eq] at hg6_85
                    refine g1 30 true 85 86 32 rfl rfl rfl rfl rfl ?_
                    refine s1 86 472 32 rfl rfl rfl rfl rfl rfl trivial ?_
                    refine g1 30 true 85 87 33 rfl rfl rfl rfl rfl ?_
                    refine c1 (codeMay_any (fin (B_Put places)) (Nat.le_trans (ok_Put hr).2.2 (by decide))) [] [] 87 480 33 rfl rfl rfl rfl rfl rfl rfl rfl Try.func15 rfl rfl rfl rfl trivial rfl rfl ?_
                    refine val 87 (SV.b true) rfl (by rw [(ok_Put hr).1]) ?_
                    refine s1 88 488 34 rfl rfl rfl rfl rfl rfl trivial ?_
                    refine s1 89 496 35 rfl rfl rfl rfl rfl rfl trivial ?_
                    refine ask 89 rfl (fun hg6_89 => ?_) (fun hg6_89 => ?_)
                    · skip
                      try simp only [decide_eq_true_eq, decide_eq_false_iff_not, Bool.not_eq_true', Bool.not_eq_false', beq_iff_eq, bne_iff_ne, beq_eq_false_iff_ne, Bool.and_eq_true, Bool.or_eq_true, Bool.and_eq_false_iff, Bool.or_eq_false_iff, ge_iff_le, gt_iff_lt, Int.not_lt, Int.not_le, ne_eq, Decidable.not_not, bne_eq_false_iff_eq] at hg6_89
                      refine g1 34 true 89 90 36 rfl rfl rfl rfl rfl ?_
                      refine s1 90 504 36 rfl rfl rfl rfl rfl rfl trivial ?_
                      refine g1 34 true 89 91 37 rfl rfl rfl rfl rfl ?_
                      refine c1 (codeMay_any (fin (B_Take places)) (Nat.le_trans (ok_Take hr).2.2 (by decide))) [] [] 91 512 37 rfl rfl rfl rfl rfl rfl rfl rfl Try.func15 rfl rfl rfl rfl trivial rfl rfl ?_
                      refine val 91 (SV.b true) rfl (by rw [(ok_Take hr).1]) ?_
                      refine s1 92 520 38 rfl rfl rfl rfl rfl rfl trivial ?_
                      refine s1 2 528 39 rfl rfl rfl rfl rfl rfl trivial ?_
                      refine e1 536 rfl ?_
                      refine keep [2] rfl ?_
                      refine W_ret ?_
                      exact out1 2 (SV.b true) (π := []) (hout := []) Try.results10 rfl (by first | rfl | (simp; done) | (simp [*]; done)) rfl rfl trivial rfl
                    · skip
                      try simp only [decide_eq_true_eq, decide_eq_false_iff_not, Bool.not_eq_true', Bool.not_eq_false', beq_iff_eq, bne_iff_ne, beq_eq_false_iff_ne, Bool.and_eq_true, Bool.or_eq_true, Bool.and_eq_false_iff, Bool.or_eq_false_iff, ge_iff_le, gt_iff_lt, Int.not_lt, Int.not_le, ne_eq, Decidable.not_not, bne_eq_false_iff_eq] at hg6_89
                      all_goals (exfalso; first | (simp at hg6_89; done) | (simp at hg6_89; omega) | (simp_all; omega) | omega)
                  · skip
                    try simp only [decide_eq_true_eq, decide_eq_false_iff_not, Bool.not_eq_true', Bool.not_eq_false', beq_iff_eq, bne_iff_ne, beq_eq_false_iff_ne, Bool.and_eq_true, Bool.or_eq_true, Bool.and_eq_false_iff, Bool.or_eq_false_iff, ge_iff_le, gt_iff_lt, Int.not_lt, Int.not_le, ne_eq, Decidable.not_not, bne_eq_false_iff_eq] at hg6_85
                    all_goals (exfalso; first | (simp at hg6_85; done) | (simp at hg6_85; omega) | (simp_all; omega) | omega)
                · skip
                  try simp only [decide_eq_true_eq, decide_eq_false_iff_not, Bool.not_eq_true', Bool.not_eq_false', beq_iff_eq, bne_iff_ne, beq_eq_false_iff_ne, Bool.and_eq_true, Bool.or_eq_true, Bool.and_eq_false_iff, Bool.or_eq_false_iff, ge_iff_le, gt_iff_lt, Int.not_lt, Int.not_le, ne_eq, Decidable.not_not, bne_eq_false_iff_eq] at hg6_80
                  all_goals (exfalso; first | (simp at hg6_80; done) | (simp at hg6_80; omega) | (simp_all; omega) | omega)
              · skip
                try simp only [decide_eq_true_eq, decide_eq_false_iff_not, Bool.not_eq_true', Bool.not_eq_false', beq_iff_eq, bne_iff_ne, beq_eq_false_iff_ne, Bool.and_eq_true, Bool.or_eq_true, Bool.and_eq_false_iff, Bool.or_eq_false_iff, ge_iff_le, gt_iff_lt, Int.not_lt, Int.not_le, ne_eq, Decidable.not_not, bne_eq_false_iff_eq] at hg6_75
                all_goals (exfalso; first | (simp at hg6_75; done) | (simp at hg6_75; omega) | (simp_all; omega) | omega)
            · skip
              try simp only [decide_eq_true_eq, decide_eq_false_iff_not, Bool.not_eq_true', Bool.not_eq_false', beq_iff_eq, bne_iff_ne, beq_eq_false_iff_ne, Bool.and_eq_true, Bool.or_eq_true, Bool.and_eq_false_iff, Bool.or_eq_false_iff, ge_iff_le, gt_iff_lt, Int.not_lt, Int.not_le, ne_eq, Decidable.not_not, bne_eq_false_iff_eq] at hg6_70
              all_goals (exfalso; first | (simp at hg6_70; done) | (simp at hg6_70; omega) | (simp_all; omega) | omega)
          · skip
            try simp only [decide_eq_true_eq, decide_eq_false_iff_not, Bool.not_eq_true', Bool.not_eq_false', beq_iff_eq, bne_iff_ne, beq_eq_false_iff_ne, Bool.and_eq_true, Bool.or_eq_true, Bool.and_eq_false_iff, Bool.or_eq_false_iff, ge_iff_le, gt_iff_lt, Int.not_lt, Int.not_le, ne_eq, Decidable.not_not, bne_eq_false_iff_eq] at hg6_65
            all_goals (exfalso; first | (simp at hg6_65; done) | (simp at hg6_65; omega) | (simp_all; omega) | omega)
        · skip
          try simp only [decide_eq_true_eq, decide_eq_false_iff_not, Bool.not_eq_true', Bool.not_eq_false', beq_iff_eq, bne_iff_ne, beq_eq_false_iff_ne, Bool.and_eq_true, Bool.or_eq_true, Bool.and_eq_false_iff, Bool.or_eq_false_iff, ge_iff_le, gt_iff_lt, Int.not_lt, Int.not_le, ne_eq, Decidable.not_not, bne_eq_false_iff_eq] at hg6_61
          all_goals (exfalso; first | (simp at hg6_61; done) | (simp at hg6_61; omega) | (simp_all; omega) | omega)
      · skip
        try simp only [decide_eq_true_eq, decide_eq_false_iff_not, Bool.not_eq_true', Bool.not_eq_false', beq_iff_eq, bne_iff_ne, beq_eq_false_iff_ne, Bool.and_eq_true, Bool.or_eq_true, Bool.and_eq_false_iff, Bool.or_eq_false_iff, ge_iff_le, gt_iff_lt, Int.not_lt, Int.not_le, ne_eq, Decidable.not_not, bne_eq_false_iff_eq] at hg6_57
        all_goals (exfalso; first | (simp at hg6_57; done) | (simp at hg6_57; omega) | (simp_all; omega) | omega)

theorem law_no (places : Int) (hr : ¬ (1 ≤ places ∧ places ≤ 8)) : Spec Try.prog GV 10 [SV.i places] [] (fun r _ => r = SV.b true) := by
  refine start 93 0 Try.func10 rfl rfl rfl rfl ?_
  refine r1 ?_
  refine s1 2 0 1 rfl rfl rfl rfl rfl rfl trivial ?_
  refine e1 8 rfl ?_
  refine keep [0] rfl ?_
  refine r1 ?_
  refine s1 10 8 1 rfl rfl rfl rfl rfl rfl trivial ?_
  refine c1 (no_Words places hr) [] [] 11 16 2 rfl rfl rfl rfl rfl rfl rfl rfl Try.func34 rfl rfl rfl rfl trivial rfl rfl ?_
  refine s1 9 24 3 rfl rfl rfl rfl rfl rfl trivial ?_
  refine s1 12 32 4 rfl rfl rfl rfl rfl rfl trivial ?_
  refine s1 13 40 5 rfl rfl rfl rfl rfl rfl trivial ?_
  refine s1 3 48 6 rfl rfl rfl rfl rfl rfl trivial ?_
  refine s1 4 56 7 rfl rfl rfl rfl rfl rfl trivial ?_
  refine e1 64 rfl ?_
  refine keep [0, 3, 4] rfl ?_
  refine r1 ?_
  refine s1 15 64 1 rfl rfl rfl rfl rfl rfl trivial ?_
  refine c1 (no_Put places hr) [] [] 16 72 2 rfl rfl rfl rfl rfl rfl rfl rfl Try.func35 rfl rfl rfl rfl trivial rfl rfl ?_
  refine s1 14 80 3 rfl rfl rfl rfl rfl rfl trivial ?_
  refine s1 17 88 4 rfl rfl rfl rfl rfl rfl trivial ?_
  refine s1 18 96 5 rfl rfl rfl rfl rfl rfl trivial ?_
  refine s1 5 104 6 rfl rfl rfl rfl rfl rfl trivial ?_
  refine s1 6 112 7 rfl rfl rfl rfl rfl rfl trivial ?_
  refine e1 120 rfl ?_
  refine keep [0, 3, 4, 5, 6] rfl ?_
  refine r1 ?_
  refine s1 20 120 1 rfl rfl rfl rfl rfl rfl trivial ?_
  refine c1 (no_Take places hr) [] [] 21 128 2 rfl rfl rfl rfl rfl rfl rfl rfl Try.func36 rfl rfl rfl rfl trivial rfl rfl ?_
  refine s1 19 136 3 rfl rfl rfl rfl rfl rfl trivial ?_
  refine s1 22 144 4 rfl rfl rfl rfl rfl rfl trivial ?_
  refine s1 23 152 5 rfl rfl rfl rfl rfl rfl trivial ?_
  refine s1 7 160 6 rfl rfl rfl rfl rfl rfl trivial ?_
  refine s1 8 168 7 rfl rfl rfl rfl rfl rfl trivial ?_
  refine e1 176 rfl ?_
  refine keep [0, 3, 4, 5, 6, 7, 8] rfl ?_
  refine W_seq ?_
  refine r1 ?_
  refine s1 24 176 1 rfl rfl rfl rfl rfl rfl trivial ?_
  refine s1 25 184 2 rfl rfl rfl rfl rfl rfl (by first | trivial | omega | (simp only [List.length_map, List.length_append, List.length_cons, List.length_nil] at *; omega)) ?_
  refine s1 26 192 3 rfl rfl rfl rfl rfl rfl trivial ?_
  refine ask 26 rfl (fun hg4_26 => ?_) (fun hg4_26 => ?_)
  · skip
    try simp only [decide_eq_true_eq, decide_eq_false_iff_not, Bool.not_eq_true', Bool.not_eq_false', beq_iff_eq, bne_iff_ne, beq_eq_false_iff_ne, Bool.and_eq_true, Bool.or_eq_true, Bool.and_eq_false_iff, Bool.or_eq_false_iff, ge_iff_le, gt_iff_lt, Int.not_lt, Int.not_le, ne_eq, Decidable.not_not, bne_eq_false_iff_eq] at hg4_26
    refine g0 2 false 26 27 4 rfl rfl rfl rfl rfl rfl ?_
    refine g0 2 false 26 28 5 rfl rfl rfl rfl rfl rfl ?_
    refine s1 29 216 6 rfl rfl rfl rfl rfl rfl trivial ?_
    refine e1 224 rfl ?_
    refine keep [3, 4, 5, 6, 7, 8, 29] rfl ?_
    refine q1 rfl (fun hc4 => ?_) (fun hc4 => ?_)
    · skip
      try simp only [decide_eq_true_eq, decide_eq_false_iff_not, Bool.not_eq_true', Bool.not_eq_false', beq_iff_eq, bne_iff_ne, beq_eq_false_iff_ne, Bool.and_eq_true, Bool.or_eq_true, Bool.and_eq_false_iff, Bool.or_eq_false_iff, ge_iff_le, gt_iff_lt, Int.not_lt, Int.not_le, ne_eq, Decidable.not_not, bne_eq_false_iff_eq] at hc4
      refine r1 ?_
      refine s1 30 224 1 rfl rfl rfl rfl rfl rfl trivial ?_
      refine s1 31 232 2 rfl rfl rfl rfl rfl rfl (by first | trivial | omega | (simp only [List.length_map, List.length_append, List.length_cons, List.length_nil] at *; omega)) ?_
      refine s1 32 240 3 rfl rfl rfl rfl rfl rfl (by first | trivial | omega | (simp only [List.length_map, List.length_append, List.length_cons, List.length_nil] at *; omega)) ?_
      refine s1 33 248 4 rfl rfl rfl rfl rfl rfl trivial ?_
      refine ask 33 rfl (fun hg5_33 => ?_) (fun hg5_33 => ?_)
      · skip
        try simp only [decide_eq_true_eq, decide_eq_false_iff_not, Bool.not_eq_true', Bool.not_eq_false', beq_iff_eq, bne_iff_ne, beq_eq_false_iff_ne, Bool.and_eq_true, Bool.or_eq_true, Bool.and_eq_false_iff, Bool.or_eq_false_iff, ge_iff_le, gt_iff_lt, Int.not_lt, Int.not_le, ne_eq, Decidable.not_not, bne_eq_false_iff_eq] at hg5_33
        refine g1 3 true 33 34 5 rfl rfl rfl rfl rfl ?_
        refine s1 34 256 5 rfl rfl rfl rfl rfl rfl trivial ?_
        refine g1 3 true 33 35 6 rfl rfl rfl rfl rfl ?_
        refine s1 35 264 6 rfl rfl rfl rfl rfl rfl (by first | trivial | omega | (simp only [List.length_map, List.length_append, List.length_cons, List.length_nil] at *; omega)) ?_
        refine g1 3 true 33 36 7 rfl rfl rfl rfl rfl ?_
        refine s1 36 272 7 rfl rfl rfl rfl rfl rfl (by first | trivial | omega | (simp only [List.length_map, List.length_append, List.length_cons, List.length_nil] at *; omega)) ?_
        refine s1 37 280 8 rfl rfl rfl rfl rfl rfl trivial ?_
        refine s1 38 288 9 rfl rfl rfl rfl rfl rfl trivial ?_
        refine ask 38 rfl (fun hg5_38 => ?_) (fun hg5_38 => ?_)
        · skip
          try simp only [decide_eq_true_eq, decide_eq_false_iff_not, Bool.not_eq_true', Bool.not_eq_false', beq_iff_eq, bne_iff_ne, beq_eq_false_iff_ne, Bool.and_eq_true, Bool.or_eq_true, Bool.and_eq_false_iff, Bool.or_eq_false_iff, ge_iff_le, gt_iff_lt, Int.not_lt, Int.not_le, ne_eq, Decidable.not_not, bne_eq_false_iff_eq] at hg5_38
          refine g1 8 true 38 39 10 rfl rfl rfl rfl rfl ?_
          refine s1 39 296 10 rfl rfl rfl rfl rfl rfl trivial ?_
          refine g1 8 true 38 40 11 rfl rfl rfl rfl rfl ?_
          refine s1 40 304 11 rfl rfl rfl rfl rfl rfl (by first | trivial | omega | (simp only [List.length_map, List.length_append, List.length_cons, List.length_nil] at *; omega)) ?_
          refine g1 8 true 38 41 12 rfl rfl rfl rfl rfl ?_
          refine s1 41 312 12 rfl rfl rfl rfl rfl rfl (by first | trivial | omega | (simp only [List.length_map, List.length_append, List.length_cons, List.length_nil] at *; omega)) ?_
          refine s1 42 320 13 rfl rfl rfl rfl rfl rfl trivial ?_
          refine s1 43 328 14 rfl rfl rfl rfl rfl rfl trivial ?_
          refine ask 43 rfl (fun hg5_43 => ?_) (fun hg5_43 => ?_)
          · skip
            try simp only [decide_eq_true_eq, decide_eq_false_iff_not, Bool.not_eq_true', Bool.not_eq_false', beq_iff_eq, bne_iff_ne, beq_eq_false_iff_ne, Bool.and_eq_true, Bool.or_eq_true, Bool.and_eq_false_iff, Bool.or_eq_false_iff, ge_iff_le, gt_iff_lt, Int.not_lt, Int.not_le, ne_eq, Decidable.not_not, bne_eq_false_iff_eq] at hg5_43
            refine g1 13 true 43 44 15 rfl rfl rfl rfl rfl ?_
            refine s1 44 336 15 rfl rfl rfl rfl rfl rfl trivial ?_
            refine g1 13 true 43 45 16 rfl rfl rfl rfl rfl ?_
            refine s1 45 344 16 rfl rfl rfl rfl rfl rfl (by first | trivial | omega | (simp only [List.length_map, List.length_append, List.length_cons, List.length_nil] at *; omega)) ?_
            refine s1 46 352 17 rfl rfl rfl rfl rfl rfl trivial ?_
            refine s1 47 360 18 rfl rfl rfl rfl rfl rfl trivial ?_
            refine ask 47 rfl (fun hg5_47 => ?_) (fun hg5_47 => ?_)
            · skip
              try simp only [decide_eq_true_eq, decide_eq_false_iff_not, Bool.not_eq_true', Bool.not_eq_false', beq_iff_eq, bne_iff_ne, beq_eq_false_iff_ne, Bool.and_eq_true, Bool.or_eq_true, Bool.and_eq_false_iff, Bool.or_eq_false_iff, ge_iff_le, gt_iff_lt, Int.not_lt, Int.not_le, ne_eq, Decidable.not_not, bne_eq_false_iff_eq] at hg5_47
              refine g1 17 true 47 48 19 rfl rfl rfl rfl rfl ?_
              refine s1 48 368 19 rfl rfl rfl rfl rfl rfl trivial ?_
              refine g1 17 true 47 49 20 rfl rfl rfl rfl rfl ?_
              refine s1 49 376 20 rfl rfl rfl rfl rfl rfl (by first | trivial | omega | (simp only [List.length_map, List.length_append, List.length_cons, List.length_nil] at *; omega)) ?_
              refine s1 50 384 21 rfl rfl rfl rfl rfl rfl trivial ?_
              refine s1 51 392 22 rfl rfl rfl rfl rfl rfl trivial ?_
              refine ask 51 rfl (fun hg5_51 => ?_) (fun hg5_51 => ?_)
              · skip
                try simp only [decide_eq_true_eq, decide_eq_false_iff_not, Bool.not_eq_true', Bool.not_eq_false', beq_iff_eq, bne_iff_ne, beq_eq_false_iff_ne, Bool.and_eq_true, Bool.or_eq_true, Bool.and_eq_false_iff, Bool.or_eq_false_iff, ge_iff_le, gt_iff_lt, Int.not_lt, Int.not_le, ne_eq, Decidable.not_not, bne_eq_false_iff_eq] at hg5_51
                refine g1 21 true 51 52 23 rfl rfl rfl rfl rfl ?_
                refine s1 52 400 23 rfl rfl rfl rfl rfl rfl trivial ?_
                refine g1 21 true 51 53 24 rfl rfl rfl rfl rfl ?_
                refine s1 53 408 24 rfl rfl rfl rfl rfl rfl (by first | trivial | omega | (simp only [List.length_map, List.length_append, List.length_cons, List.length_nil] at *; omega)) ?_
                refine s1 54 416 25 rfl rfl rfl rfl rfl rfl trivial ?_
                refine s1 2 424 26 rfl rfl rfl rfl rfl rfl trivial ?_
                refine e1 432 rfl ?_
                refine keep [2] rfl ?_
                refine W_ret ?_
                refine tr ?_
                exact out1 2 (SV.b true) (π := []) (hout := []) Try.results10 rfl (by first | rfl | (simp; done) | (simp [*]; done)) rfl rfl trivial rfl
              · skip
                try simp only [decide_eq_true_eq, decide_eq_false_iff_not, Bool.not_eq_true', Bool.not_eq_false', beq_iff_eq, bne_iff_ne, beq_eq_false_iff_ne, Bool.and_eq_true, Bool.or_eq_true, Bool.and_eq_false_iff, Bool.or_eq_false_iff, ge_iff_le, gt_iff_lt, Int.not_lt, Int.not_le, ne_eq, Decidable.not_not, bne_eq_false_iff_eq] at hg5_51
                all_goals (exfalso; first | (simp at hg5_51; done) | (simp at hg5_51; omega) | (simp_all; omega) | omega)
            · skip
              try simp only [decide_eq_true_eq, decide_eq_false_iff_not, Bool.not_eq_true', Bool.not_eq_false', beq_iff_eq, bne_iff_ne, beq_eq_false_iff_ne, Bool.and_eq_true, Bool.or_eq_true, Bool.and_eq_false_iff, Bool.or_eq_false_iff, ge_iff_le, gt_iff_lt, Int.not_lt, Int.not_le, ne_eq, Decidable.not_not, bne_eq_false_iff_eq] at hg5_47
              all_goals (exfalso; first | (simp at hg5_47; done) | (simp at hg5_47; omega) | (simp_all; omega) | omega)
          · skip
            try simp only [decide_eq_true_eq, decide_eq_false_iff_not, Bool.not_eq_true', Bool.not_eq_false', beq_iff_eq, bne_iff_ne, beq_eq_false_iff_ne, Bool.and_eq_true, Bool.or_eq_true, Bool.and_eq_false_iff, Bool.or_eq_false_iff, ge_iff_le, gt_iff_lt, Int.not_lt, Int.not_le, ne_eq, Decidable.not_not, bne_eq_false_iff_eq] at hg5_43
            all_goals (exfalso; first | (simp at hg5_43; done) | (simp at hg5_43; omega) | (simp_all; omega) | omega)
        · skip
          try simp only [decide_eq_true_eq, decide_eq_false_iff_not, Bool.not_eq_true', Bool.not_eq_false', beq_iff_eq, bne_iff_ne, beq_eq_false_iff_ne, Bool.and_eq_true, Bool.or_eq_true, Bool.and_eq_false_iff, Bool.or_eq_false_iff, ge_iff_le, gt_iff_lt, Int.not_lt, Int.not_le, ne_eq, Decidable.not_not, bne_eq_false_iff_eq] at hg5_38
          all_goals (exfalso; first | (simp at hg5_38; done) | (simp at hg5_38; omega) | (simp_all; omega) | omega)
      · skip
        try simp only [decide_eq_true_eq, decide_eq_false_iff_not, Bool.not_eq_true', Bool.not_eq_false', beq_iff_eq, bne_iff_ne, beq_eq_false_iff_ne, Bool.and_eq_true, Bool.or_eq_true, Bool.and_eq_false_iff, Bool.or_eq_false_iff, ge_iff_le, gt_iff_lt, Int.not_lt, Int.not_le, ne_eq, Decidable.not_not, bne_eq_false_iff_eq] at hg5_33
        all_goals (exfalso; first | (simp at hg5_33; done) | (simp at hg5_33; omega) | (simp_all; omega) | omega)
    · skip
      exact absurd hc4 (by decide)
  · skip
    try simp only [decide_eq_true_eq, decide_eq_false_iff_not, Bool.not_eq_true', Bool.not_eq_false', beq_iff_eq, bne_iff_ne, beq_eq_false_iff_ne, Bool.and_eq_true, Bool.or_eq_true, Bool.and_eq_false_iff, Bool.or_eq_false_iff, ge_iff_le, gt_iff_lt, Int.not_lt, Int.not_le, ne_eq, Decidable.not_not, bne_eq_false_iff_eq] at hg4_26
    refine g1 2 false 26 27 4 rfl rfl rfl rfl rfl ?_
    refine s1 27 200 4 rfl rfl rfl rfl rfl rfl trivial ?_
    refine g1 2 false 26 28 5 rfl rfl rfl rfl rfl ?_
    refine s1 28 208 5 rfl rfl rfl rfl rfl rfl (by first | trivial | omega | (simp only [List.length_map, List.length_append, List.length_cons, List.length_nil] at *; omega)) ?_
    refine s1 29 216 6 rfl rfl rfl rfl rfl rfl trivial ?_
    refine e1 224 rfl ?_
    refine keep [3, 4, 5, 6, 7, 8, 29] rfl ?_
    refine q1 rfl (fun hc4 => ?_) (fun hc4 => ?_)
    · skip
      try simp only [decide_eq_true_eq, decide_eq_false_iff_not, Bool.not_eq_true', Bool.not_eq_false', beq_iff_eq, bne_iff_ne, beq_eq_false_iff_ne, Bool.and_eq_true, Bool.or_eq_true, Bool.and_eq_false_iff, Bool.or_eq_false_iff, ge_iff_le, gt_iff_lt, Int.not_lt, Int.not_le, ne_eq, Decidable.not_not, bne_eq_false_iff_eq] at hc4
      refine r1 ?_
      refine s1 30 224 1 rfl rfl rfl rfl rfl rfl trivial ?_
      refine s1 31 232 2 rfl rfl rfl rfl rfl rfl (by first | trivial | omega | (simp only [List.length_map, List.length_append, List.length_cons, List.length_nil] at *; omega)) ?_
      refine s1 32 240 3 rfl rfl rfl rfl rfl rfl (by first | trivial | omega | (simp only [List.length_map, List.length_append, List.length_cons, List.length_nil] at *; omega)) ?_
      refine s1 33 248 4 rfl rfl rfl rfl rfl rfl trivial ?_
      refine ask 33 rfl (fun hg5_33 => ?_) (fun hg5_33 => ?_)
      · skip
        try simp only [decide_eq_true_eq, decide_eq_false_iff_not, Bool.not_eq_true', Bool.not_eq_false', beq_iff_eq, bne_iff_ne, beq_eq_false_iff_ne, Bool.and_eq_true, Bool.or_eq_true, Bool.and_eq_false_iff, Bool.or_eq_false_iff, ge_iff_le, gt_iff_lt, Int.not_lt, Int.not_le, ne_eq, Decidable.not_not, bne_eq_false_iff_eq] at hg5_33
        refine g1 3 true 33 34 5 rfl rfl rfl rfl rfl ?_
        refine s1 34 256 5 rfl rfl rfl rfl rfl rfl trivial ?_
        refine g1 3 true 33 35 6 rfl rfl rfl rfl rfl ?_
        refine s1 35 264 6 rfl rfl rfl rfl rfl rfl (by first | trivial | omega | (simp only [List.length_map, List.length_append, List.length_cons, List.length_nil] at *; omega)) ?_
        refine g1 3 true 33 36 7 rfl rfl rfl rfl rfl ?_
        refine s1 36 272 7 rfl rfl rfl rfl rfl rfl (by first | trivial | omega | (simp only [List.length_map, List.length_append, List.length_cons, List.length_nil] at *; omega)) ?_
        refine s1 37 280 8 rfl rfl rfl rfl rfl rfl trivial ?_
        refine s1 38 288 9 rfl rfl rfl rfl rfl rfl trivial ?_
        refine ask 38 rfl (fun hg5_38 => ?_) (fun hg5_38 => ?_)
        · skip
          try simp only [decide_eq_true_eq, decide_eq_false_iff_not, Bool.not_eq_true', Bool.not_eq_false', beq_iff_eq, bne_iff_ne, beq_eq_false_iff_ne, Bool.and_eq_true, Bool.or_eq_true, Bool.and_eq_false_iff, Bool.or_eq_false_iff, ge_iff_le, gt_iff_lt, Int.not_lt, Int.not_le, ne_eq, Decidable.not_not, bne_eq_false_iff_eq] at hg5_38
          refine g1 8 true 38 39 10 rfl rfl rfl rfl rfl ?_
          refine s1 39 296 10 rfl rfl rfl rfl rfl rfl trivial ?_
          refine g1 8 true 38 40 11 rfl rfl rfl rfl rfl ?_
          refine s1 40 304 11 rfl rfl rfl rfl rfl rfl (by first | trivial | omega | (simp only [List.length_map, List.length_append, List.length_cons, List.length_nil] at *; omega)) ?_
          refine g1 8 true 38 41 12 rfl rfl rfl rfl rfl ?_
          refine s1 41 312 12 rfl rfl rfl rfl rfl rfl (by first | trivial | omega | (simp only [List.length_map, List.length_append, List.length_cons, List.length_nil] at *; omega)) ?_
          refine s1 42 320 13 rfl rfl rfl rfl rfl rfl trivial ?_
          refine s1 43 328 14 rfl rfl rfl rfl rfl rfl trivial ?_
          refine ask 43 rfl (fun hg5_43 => ?_) (fun hg5_43 => ?_)
          · skip
            try simp only [decide_eq_true_eq, decide_eq_false_iff_not, Bool.not_eq_true', Bool.not_eq_false', beq_iff_eq, bne_iff_ne, beq_eq_false_iff_ne, Bool.and_eq_true, Bool.or_eq_true, Bool.and_eq_false_iff, Bool.or_eq_false_iff, ge_iff_le, gt_iff_lt, Int.not_lt, Int.not_le, ne_eq, Decidable.not_not, bne_eq_false_iff_eq] at hg5_43
            refine g1 13 true 43 44 15 rfl rfl rfl rfl rfl ?_
            refine s1 44 336 15 rfl rfl rfl rfl rfl rfl trivial ?_
            refine g1 13 true 43 45 16 rfl rfl rfl rfl rfl ?_
            refine s1 45 344 16 rfl rfl rfl rfl rfl rfl (by first | trivial | omega | (simp only [List.length_map, List.length_append, List.length_cons, List.length_nil] at *; omega)) ?_
            refine s1 46 352 17 rfl rfl rfl rfl rfl rfl trivial ?_
            refine s1 47 360 18 rfl rfl rfl rfl rfl rfl trivial ?_
            refine ask 47 rfl (fun hg5_47 => ?_) (fun hg5_47 => ?_)
            · skip
              try simp only [decide_eq_true_eq, decide_eq_false_iff_not, Bool.not_eq_true', Bool.not_eq_false', beq_iff_eq, bne_iff_ne, beq_eq_false_iff_ne, Bool.and_eq_true, Bool.or_eq_true, Bool.and_eq_false_iff, Bool.or_eq_false_iff, ge_iff_le, gt_iff_lt, Int.not_lt, Int.not_le, ne_eq, Decidable.not_not, bne_eq_false_iff_eq] at hg5_47
              refine g1 17 true 47 48 19 rfl rfl rfl rfl rfl ?_
              refine s1 48 368 19 rfl rfl rfl rfl rfl rfl trivial ?_
              refine g1 17 true 47 49 20 rfl rfl rfl rfl rfl ?_
              refine s1 49 376 20 rfl rfl rfl rfl rfl rfl (by first | trivial | omega | (simp only [List.length_map, List.length_append, List.length_cons, List.length_nil] at *; omega)) ?_
              refine s1 50 384 21 rfl rfl rfl rfl rfl rfl trivial ?_
              refine s1 51 392 22 rfl rfl rfl rfl rfl rfl trivial ?_
              refine ask 51 rfl (fun hg5_51 => ?_) (fun hg5_51 => ?_)
              · skip
                try simp only [decide_eq_true_eq, decide_eq_false_iff_not, Bool.not_eq_true', Bool.not_eq_false', beq_iff_eq, bne_iff_ne, beq_eq_false_iff_ne, Bool.and_eq_true, Bool.or_eq_true, Bool.and_eq_false_iff, Bool.or_eq_false_iff, ge_iff_le, gt_iff_lt, Int.not_lt, Int.not_le, ne_eq, Decidable.not_not, bne_eq_false_iff_eq] at hg5_51
                refine g1 21 true 51 52 23 rfl rfl rfl rfl rfl ?_
                refine s1 52 400 23 rfl rfl rfl rfl rfl rfl trivial ?_
                refine g1 21 true 51 53 24 rfl rfl rfl rfl rfl ?_
                refine s1 53 408 24 rfl rfl rfl rfl rfl rfl (by first | trivial | omega | (simp only [List.length_map, List.length_append, List.length_cons, List.length_nil] at *; omega)) ?_
                refine s1 54 416 25 rfl rfl rfl rfl rfl rfl trivial ?_
                refine s1 2 424 26 rfl rfl rfl rfl rfl rfl trivial ?_
                refine e1 432 rfl ?_
                refine keep [2] rfl ?_
                refine W_ret ?_
                refine tr ?_
                exact out1 2 (SV.b true) (π := []) (hout := []) Try.results10 rfl (by first | rfl | (simp; done) | (simp [*]; done)) rfl rfl trivial rfl
              · skip
                try simp only [decide_eq_true_eq, decide_eq_false_iff_not, Bool.not_eq_true', Bool.not_eq_false', beq_iff_eq, bne_iff_ne, beq_eq_false_iff_ne, Bool.and_eq_true, Bool.or_eq_true, Bool.and_eq_false_iff, Bool.or_eq_false_iff, ge_iff_le, gt_iff_lt, Int.not_lt, Int.not_le, ne_eq, Decidable.not_not, bne_eq_false_iff_eq] at hg5_51
                all_goals (exfalso; first | (simp at hg5_51; done) | (simp at hg5_51; omega) | (simp_all; omega) | omega)
            · skip
              try simp only [decide_eq_true_eq, decide_eq_false_iff_not, Bool.not_eq_true', Bool.not_eq_false', beq_iff_eq, bne_iff_ne, beq_eq_false_iff_ne, Bool.and_eq_true, Bool.or_eq_true, Bool.and_eq_false_iff, Bool.or_eq_false_iff, ge_iff_le, gt_iff_lt, Int.not_lt, Int.not_le, ne_eq, Decidable.not_not, bne_eq_false_iff_eq] at hg5_47
              all_goals (exfalso; first | (simp at hg5_47; done) | (simp at hg5_47; omega) | (simp_all; omega) | omega)
          · skip
            try simp only [decide_eq_true_eq, decide_eq_false_iff_not, Bool.not_eq_true', Bool.not_eq_false', beq_iff_eq, bne_iff_ne, beq_eq_false_iff_ne, Bool.and_eq_true, Bool.or_eq_true, Bool.and_eq_false_iff, Bool.or_eq_false_iff, ge_iff_le, gt_iff_lt, Int.not_lt, Int.not_le, ne_eq, Decidable.not_not, bne_eq_false_iff_eq] at hg5_43
            all_goals (exfalso; first | (simp at hg5_43; done) | (simp at hg5_43; omega) | (simp_all; omega) | omega)
        · skip
          try simp only [decide_eq_true_eq, decide_eq_false_iff_not, Bool.not_eq_true', Bool.not_eq_false', beq_iff_eq, bne_iff_ne, beq_eq_false_iff_ne, Bool.and_eq_true, Bool.or_eq_true, Bool.and_eq_false_iff, Bool.or_eq_false_iff, ge_iff_le, gt_iff_lt, Int.not_lt, Int.not_le, ne_eq, Decidable.not_not, bne_eq_false_iff_eq] at hg5_38
          all_goals (exfalso; first | (simp at hg5_38; done) | (simp at hg5_38; omega) | (simp_all; omega) | omega)
      · skip
        try simp only [decide_eq_true_eq, decide_eq_false_iff_not, Bool.not_eq_true', Bool.not_eq_false', beq_iff_eq, bne_iff_ne, beq_eq_false_iff_ne, Bool.and_eq_true, Bool.or_eq_true, Bool.and_eq_false_iff, Bool.or_eq_false_iff, ge_iff_le, gt_iff_lt, Int.not_lt, Int.not_le, ne_eq, Decidable.not_not, bne_eq_false_iff_eq] at hg5_33
        all_goals (exfalso; first | (simp at hg5_33; done) | (simp at hg5_33; omega) | (simp_all; omega) | omega)
    · skip
      exfalso; simp at hc4; omega

theorem law_all (places : Int) : Spec Try.prog GV 10 [SV.i places] [] (fun r _ => r = SV.b true) := by
  by_cases hr : 1 ≤ places ∧ places ≤ 8
  · exact law_yes places hr
  · exact law_no places hr

end Go.Proofs.Ytnmbdggdilbdaaa.Nice
