/- The codes of package barr, and the law BarrCodes. -/
import Derived.Test.YtnmbdggdilbdaaaCodeMay
namespace Go.Proofs.Ytnmbdggdilbdaaa.Nice
open Go
set_option linter.unusedVariables false
set_option linter.unusedSimpArgs false
set_option maxRecDepth 100000
set_option maxHeartbeats 4000000
abbrev st_again : ByteArray := ⟨#[97, 103, 97, 105, 110]⟩
abbrev st_all : ByteArray := ⟨#[97, 108, 108]⟩
abbrev st_base : ByteArray := ⟨#[98, 97, 115, 101]⟩
abbrev st_less : ByteArray := ⟨#[108, 101, 115, 115]⟩
abbrev st_me : ByteArray := ⟨#[109, 101]⟩
abbrev st_next : ByteArray := ⟨#[110, 101, 120, 116]⟩
abbrev st_now : ByteArray := ⟨#[110, 111, 119]⟩
abbrev st_one : ByteArray := ⟨#[111, 110, 101]⟩
abbrev st_round : ByteArray := ⟨#[114, 111, 117, 110, 100]⟩
abbrev st_wait : ByteArray := ⟨#[119, 97, 105, 116]⟩
theorem may_any (threads : Int) : Spec Try.prog GV 58 [SV.i threads] [] (fun r ho => r = SV.b ((decide (1 ≤ threads) && decide (threads ≤ 4))) ∧ ho = []) := by
  refine start 9 0 Try.func58 rfl rfl rfl rfl ?_
  refine r1 ?_
  refine s1 2 0 1 rfl rfl rfl rfl rfl rfl trivial ?_
  refine e1 8 rfl ?_
  refine keep [0] rfl ?_
  refine r1 ?_
  refine s1 3 8 1 rfl rfl rfl rfl rfl rfl trivial ?_
  refine s1 4 16 2 rfl rfl rfl rfl rfl rfl (by first | trivial | omega | (simp only [List.length_map, List.length_append, List.length_cons, List.length_nil] at *; omega)) ?_
  refine s1 5 24 3 rfl rfl rfl rfl rfl rfl trivial ?_
  refine ask 5 rfl (fun hg1_5 => ?_) (fun hg1_5 => ?_)
  · skip
    try simp only [decide_eq_true_eq, decide_eq_false_iff_not, Bool.not_eq_true', Bool.not_eq_false', beq_iff_eq, bne_iff_ne, beq_eq_false_iff_ne, Bool.and_eq_true, Bool.or_eq_true, Bool.and_eq_false_iff, Bool.or_eq_false_iff, ge_iff_le, gt_iff_lt, Int.not_lt, Int.not_le, ne_eq, Decidable.not_not, bne_eq_false_iff_eq] at hg1_5
    refine g1 2 true 5 6 4 rfl rfl rfl rfl rfl ?_
    refine s1 6 32 4 rfl rfl rfl rfl rfl rfl trivial ?_
    refine g1 2 true 5 7 5 rfl rfl rfl rfl rfl ?_
    refine s1 7 40 5 rfl rfl rfl rfl rfl rfl (by first | trivial | omega | (simp only [List.length_map, List.length_append, List.length_cons, List.length_nil] at *; omega)) ?_
    refine s1 8 48 6 rfl rfl rfl rfl rfl rfl trivial ?_
    refine s1 2 56 7 rfl rfl rfl rfl rfl rfl trivial ?_
    refine e1 64 rfl ?_
    refine keep [2] rfl ?_
    refine W_ret ?_
    exact out1 2 (SV.b ((decide (1 ≤ threads) && decide (threads ≤ 4)))) (π := []) (hout := []) Try.results58 rfl (by show SV.b _ = SV.b _; refine congrArg SV.b (Bool.eq_iff_iff.2 ?_); simp at *; try omega) rfl rfl trivial ⟨rfl, rfl⟩
  · skip
    try simp only [decide_eq_true_eq, decide_eq_false_iff_not, Bool.not_eq_true', Bool.not_eq_false', beq_iff_eq, bne_iff_ne, beq_eq_false_iff_ne, Bool.and_eq_true, Bool.or_eq_true, Bool.and_eq_false_iff, Bool.or_eq_false_iff, ge_iff_le, gt_iff_lt, Int.not_lt, Int.not_le, ne_eq, Decidable.not_not, bne_eq_false_iff_eq] at hg1_5
    refine g0 2 true 5 6 4 rfl rfl rfl rfl rfl rfl ?_
    refine g0 2 true 5 7 5 rfl rfl rfl rfl rfl rfl ?_
    refine s1 8 48 6 rfl rfl rfl rfl rfl rfl trivial ?_
    refine s1 2 56 7 rfl rfl rfl rfl rfl rfl trivial ?_
    refine e1 64 rfl ?_
    refine keep [2] rfl ?_
    refine W_ret ?_
    exact out1 2 (SV.b ((decide (1 ≤ threads) && decide (threads ≤ 4)))) (π := []) (hout := []) Try.results58 rfl (by show SV.b _ = SV.b _; refine congrArg SV.b (Bool.eq_iff_iff.2 ?_); simp at *; try omega) rfl rfl trivial ⟨rfl, rfl⟩

theorem no_Words (threads : Int) (hr : ¬ (1 ≤ threads ∧ threads ≤ 4)) : Spec Try.prog GV 26 [SV.i threads] [] (fun r ho => r = SV.tup [.d .nils, SV.i 2] ∧ ho = []) := by
  refine start 8 0 Try.func26 rfl rfl rfl rfl ?_
  refine r1 ?_
  refine s1 2 0 1 rfl rfl rfl rfl rfl rfl trivial ?_
  refine s1 3 8 2 rfl rfl rfl rfl rfl rfl trivial ?_
  refine e1 16 rfl ?_
  refine keep [0] rfl ?_
  refine W_seq ?_
  refine r1 ?_
  refine s1 4 16 1 rfl rfl rfl rfl rfl rfl trivial ?_
  refine c1 (may_any threads) [] [] 5 24 2 rfl rfl rfl rfl rfl rfl rfl rfl Try.func58 rfl rfl rfl rfl trivial rfl rfl ?_
  refine s1 6 32 3 rfl rfl rfl rfl rfl rfl trivial ?_
  refine e1 40 rfl ?_
  refine keep [6] rfl ?_
  refine q1 rfl (fun hc1 => ?_) (fun hc1 => ?_)
  · skip
    try simp only [decide_eq_true_eq, decide_eq_false_iff_not, Bool.not_eq_true', Bool.not_eq_false', beq_iff_eq, bne_iff_ne, beq_eq_false_iff_ne, Bool.and_eq_true, Bool.or_eq_true, Bool.and_eq_false_iff, Bool.or_eq_false_iff, ge_iff_le, gt_iff_lt, Int.not_lt, Int.not_le, ne_eq, Decidable.not_not, bne_eq_false_iff_eq] at hc1
    refine r1 ?_
    refine s1 2 40 1 rfl rfl rfl rfl rfl rfl trivial ?_
    refine s1 3 48 2 rfl rfl rfl rfl rfl rfl trivial ?_
    refine e1 56 rfl ?_
    refine keep [2, 3] rfl ?_
    refine W_ret ?_
    refine tr ?_
    exact out2 2 3 (.d .nils) (SV.i 2) (π := []) (hout := []) Try.results26 rfl rfl rfl rfl rfl rfl trivial ⟨rfl, rfl⟩
  · skip
    exfalso; simp at hc1; omega

theorem no_Wait (threads : Int) (hr : ¬ (1 ≤ threads ∧ threads ≤ 4)) : Spec Try.prog GV 27 [SV.i threads] [] (fun r ho => r = SV.tup [.d .nils, SV.i 2] ∧ ho = []) := by
  refine start 30 0 Try.func27 rfl rfl rfl rfl ?_
  refine r1 ?_
  refine s1 2 0 1 rfl rfl rfl rfl rfl rfl trivial ?_
  refine s1 3 8 2 rfl rfl rfl rfl rfl rfl trivial ?_
  refine e1 16 rfl ?_
  refine keep [0] rfl ?_
  refine W_seq ?_
  refine r1 ?_
  refine s1 5 16 1 rfl rfl rfl rfl rfl rfl trivial ?_
  refine c1 (may_any threads) [] [] 6 24 2 rfl rfl rfl rfl rfl rfl rfl rfl Try.func58 rfl rfl rfl rfl trivial rfl rfl ?_
  refine s1 7 32 3 rfl rfl rfl rfl rfl rfl trivial ?_
  refine e1 40 rfl ?_
  refine keep [0, 7] rfl ?_
  refine q1 rfl (fun hc1 => ?_) (fun hc1 => ?_)
  · skip
    try simp only [decide_eq_true_eq, decide_eq_false_iff_not, Bool.not_eq_true', Bool.not_eq_false', beq_iff_eq, bne_iff_ne, beq_eq_false_iff_ne, Bool.and_eq_true, Bool.or_eq_true, Bool.and_eq_false_iff, Bool.or_eq_false_iff, ge_iff_le, gt_iff_lt, Int.not_lt, Int.not_le, ne_eq, Decidable.not_not, bne_eq_false_iff_eq] at hc1
    refine r1 ?_
    refine s1 2 40 1 rfl rfl rfl rfl rfl rfl trivial ?_
    refine s1 3 48 2 rfl rfl rfl rfl rfl rfl trivial ?_
    refine e1 56 rfl ?_
    refine keep [2, 3] rfl ?_
    refine W_ret ?_
    refine tr ?_
    exact out2 2 3 (.d .nils) (SV.i 2) (π := []) (hout := []) Try.results27 rfl rfl rfl rfl rfl rfl trivial ⟨rfl, rfl⟩
  · skip
    exfalso; simp at hc1; omega

theorem yes_Words (threads : Int) (hr : 1 ≤ threads ∧ threads ≤ 4) : Spec Try.prog GV 26 [SV.i threads] [] (fun r ho => r = SV.tup [.sl 0 0 1, SV.i 0] ∧ ho = [none]) := by
  refine start 8 0 Try.func26 rfl rfl rfl rfl ?_
  refine r1 ?_
  refine s1 2 0 1 rfl rfl rfl rfl rfl rfl trivial ?_
  refine s1 3 8 2 rfl rfl rfl rfl rfl rfl trivial ?_
  refine e1 16 rfl ?_
  refine keep [0] rfl ?_
  refine W_seq ?_
  refine r1 ?_
  refine s1 4 16 1 rfl rfl rfl rfl rfl rfl trivial ?_
  refine c1 (may_any threads) [] [] 5 24 2 rfl rfl rfl rfl rfl rfl rfl rfl Try.func58 rfl rfl rfl rfl trivial rfl rfl ?_
  refine s1 6 32 3 rfl rfl rfl rfl rfl rfl trivial ?_
  refine e1 40 rfl ?_
  refine keep [6] rfl ?_
  refine q1 rfl (fun hc1 => ?_) (fun hc1 => ?_)
  · skip
    exfalso; simp at hc1; omega
  · skip
    try simp only [decide_eq_true_eq, decide_eq_false_iff_not, Bool.not_eq_true', Bool.not_eq_false', beq_iff_eq, bne_iff_ne, beq_eq_false_iff_ne, Bool.and_eq_true, Bool.or_eq_true, Bool.and_eq_false_iff, Bool.or_eq_false_iff, ge_iff_le, gt_iff_lt, Int.not_lt, Int.not_le, ne_eq, Decidable.not_not, bne_eq_false_iff_eq] at hc1
    refine W_skip ?_
    refine tn ?_
    refine r1 ?_
    refine s1 7 40 1 rfl rfl rfl rfl rfl rfl trivial ?_
    refine s1 2 48 2 rfl rfl rfl rfl rfl rfl trivial ?_
    refine s1 3 56 3 rfl rfl rfl rfl rfl rfl trivial ?_
    refine e1 64 rfl ?_
    refine keep [2, 3] rfl ?_
    refine W_ret ?_
    exact out2 2 3 (.sl 0 0 1) (SV.i 0) (π := [40]) (hout := [none]) Try.results26 rfl rfl rfl rfl rfl rfl trivial ⟨rfl, rfl⟩

def B_Wait (threads : Int) : Bld := (((((((((((((((mk [st_me]).set st_one 1).set st_all threads).mark st_again).word 13 st_now st_base 0).doo 3 st_next st_now st_one).cas st_next st_base 0 st_now).iff 12 st_next st_again).doo 6 st_round st_now st_all).doo 3 st_round st_round st_one).doo 5 st_round st_round st_all).mark st_wait).word 13 st_now st_base 0).doo 9 st_less st_now st_round).iff 11 st_less st_wait)
theorem yes_Wait (threads : Int) (hr : 1 ≤ threads ∧ threads ≤ 4) : Spec Try.prog GV 27 [SV.i threads] [] (fun r ho => r = SV.tup [.sl 0 0 (fin (B_Wait threads)).length, SV.i 0] ∧ ho = [some (.rows 42 5 (fin (B_Wait threads)).length (insF (fin (B_Wait threads))))]) := by
  refine start 30 0 Try.func27 rfl rfl rfl rfl ?_
  refine r1 ?_
  refine s1 2 0 1 rfl rfl rfl rfl rfl rfl trivial ?_
  refine s1 3 8 2 rfl rfl rfl rfl rfl rfl trivial ?_
  refine e1 16 rfl ?_
  refine keep [0] rfl ?_
  refine W_seq ?_
  refine r1 ?_
  refine s1 5 16 1 rfl rfl rfl rfl rfl rfl trivial ?_
  refine c1 (may_any threads) [] [] 6 24 2 rfl rfl rfl rfl rfl rfl rfl rfl Try.func58 rfl rfl rfl rfl trivial rfl rfl ?_
  refine s1 7 32 3 rfl rfl rfl rfl rfl rfl trivial ?_
  refine e1 40 rfl ?_
  refine keep [0, 7] rfl ?_
  refine q1 rfl (fun hc1 => ?_) (fun hc1 => ?_)
  · skip
    exfalso; simp at hc1; omega
  · skip
    try simp only [decide_eq_true_eq, decide_eq_false_iff_not, Bool.not_eq_true', Bool.not_eq_false', beq_iff_eq, bne_iff_ne, beq_eq_false_iff_ne, Bool.and_eq_true, Bool.or_eq_true, Bool.and_eq_false_iff, Bool.or_eq_false_iff, ge_iff_le, gt_iff_lt, Int.not_lt, Int.not_le, ne_eq, Decidable.not_not, bne_eq_false_iff_eq] at hc1
    refine W_skip ?_
    refine tn ?_
    refine r1 ?_
    refine sLit 1 (strsF [st_me]) 8 40 1 rfl rfl rfl rfl rfl rfl rfl rfl rfl (by intro i c hi hc; obtain rfl : i = 0 := (by omega); obtain rfl : c = 0 := (by omega); rfl) ?_
    refine c1 (new_any [st_me] (by decide)) [] [48, 49, 50, 51, 52] 9 48 2 rfl rfl rfl rfl rfl rfl rfl rfl Try.func45 rfl rfl rfl rfl trivial rfl rfl ?_
    have hb1 := ok_mk [st_me]
    refine c1 (set_any (mk [st_me]) st_one 1 hb1 (by decide)) [48, 49, 50, 51, 52] [48, 49, 50, 51, 52, 56] 10 56 3 rfl rfl rfl rfl rfl rfl rfl rfl Try.func46 rfl rfl rfl rfl ⟨rfl, rfl, rfl, rfl, rfl, trivial⟩ rfl rfl ?_
    have hb2 := ok_set st_one 1 hb1
    refine s1 11 64 4 rfl rfl rfl rfl rfl rfl trivial ?_
    refine c1 (set_any ((mk [st_me]).set st_one 1) st_all threads hb2 (by decide)) [48, 56, 50, 51, 52] [48, 56, 50, 51, 52, 72] 12 72 5 rfl rfl rfl rfl rfl rfl rfl rfl Try.func46 rfl rfl rfl rfl ⟨rfl, rfl, rfl, rfl, rfl, trivial⟩ rfl rfl ?_
    have hb3 := ok_set st_all threads hb2
    refine s1 4 80 6 rfl rfl rfl rfl rfl rfl trivial ?_
    refine e1 88 rfl ?_
    refine keep [4] rfl ?_
    refine r1 ?_
    refine s1 13 88 1 rfl rfl rfl rfl rfl rfl trivial ?_
    refine c1 (mark_any (((mk [st_me]).set st_one 1).set st_all threads) st_again hb3 (by decide)) [48, 72, 50, 51, 52] [48, 72, 50, 51, 52] 14 96 2 rfl rfl rfl rfl rfl rfl rfl rfl Try.func53 rfl rfl rfl rfl ⟨rfl, rfl, rfl, rfl, rfl, trivial⟩ rfl rfl ?_
    have hb4 := ok_mark st_again hb3
    refine c1 (word_any ((((mk [st_me]).set st_one 1).set st_all threads).mark st_again) 13 st_now st_base 0 hb4 (by decide)) [48, 72, 50, 51, 52] [48, 72, 50, 51, 52, 104] 15 104 3 rfl rfl rfl rfl rfl rfl rfl rfl Try.func52 rfl rfl rfl rfl ⟨rfl, rfl, rfl, rfl, rfl, trivial⟩ rfl rfl ?_
    have hb5 := ok_word 13 st_now st_base 0 hb4
    refine c1 (doo_any (((((mk [st_me]).set st_one 1).set st_all threads).mark st_again).word 13 st_now st_base 0) 3 st_next st_now st_one hb5 (by decide)) [48, 104, 50, 51, 52] [48, 104, 50, 51, 52, 112] 16 112 4 rfl rfl rfl rfl rfl rfl rfl rfl Try.func54 rfl rfl rfl rfl ⟨rfl, rfl, rfl, rfl, rfl, trivial⟩ rfl rfl ?_
    have hb6 := ok_doo 3 st_next st_now st_one hb5
    refine c1 (cas_any ((((((mk [st_me]).set st_one 1).set st_all threads).mark st_again).word 13 st_now st_base 0).doo 3 st_next st_now st_one) st_next st_base 0 st_now hb6 (by decide)) [48, 112, 50, 51, 52] [48, 112, 50, 51, 52, 120] 17 120 5 rfl rfl rfl rfl rfl rfl rfl rfl Try.func47 rfl rfl rfl rfl ⟨rfl, rfl, rfl, rfl, rfl, trivial⟩ rfl rfl ?_
    have hb7 := ok_cas st_next st_base 0 st_now hb6
    refine c1 (iff_any (((((((mk [st_me]).set st_one 1).set st_all threads).mark st_again).word 13 st_now st_base 0).doo 3 st_next st_now st_one).cas st_next st_base 0 st_now) 12 st_next st_again hb7 (by decide)) [48, 120, 50, 51, 52] [48, 120, 50, 51, 52, 128, 129] 18 128 6 rfl rfl rfl rfl rfl rfl rfl rfl Try.func55 rfl rfl rfl rfl ⟨rfl, rfl, rfl, rfl, rfl, trivial⟩ rfl rfl ?_
    have hb8 := ok_iff 12 st_next st_again hb7
    refine e1 136 rfl ?_
    refine keep [4] rfl ?_
    refine r1 ?_
    refine s1 19 136 1 rfl rfl rfl rfl rfl rfl trivial ?_
    refine c1 (doo_any ((((((((mk [st_me]).set st_one 1).set st_all threads).mark st_again).word 13 st_now st_base 0).doo 3 st_next st_now st_one).cas st_next st_base 0 st_now).iff 12 st_next st_again) 6 st_round st_now st_all hb8 (by decide)) [48, 129, 50, 128, 52] [48, 129, 50, 128, 52, 144] 20 144 2 rfl rfl rfl rfl rfl rfl rfl rfl Try.func54 rfl rfl rfl rfl ⟨rfl, rfl, rfl, rfl, rfl, trivial⟩ rfl rfl ?_
    have hb9 := ok_doo 6 st_round st_now st_all hb8
    refine c1 (doo_any (((((((((mk [st_me]).set st_one 1).set st_all threads).mark st_again).word 13 st_now st_base 0).doo 3 st_next st_now st_one).cas st_next st_base 0 st_now).iff 12 st_next st_again).doo 6 st_round st_now st_all) 3 st_round st_round st_one hb9 (by decide)) [48, 144, 50, 128, 52] [48, 144, 50, 128, 52, 152] 21 152 3 rfl rfl rfl rfl rfl rfl rfl rfl Try.func54 rfl rfl rfl rfl ⟨rfl, rfl, rfl, rfl, rfl, trivial⟩ rfl rfl ?_
    have hb10 := ok_doo 3 st_round st_round st_one hb9
    refine c1 (doo_any ((((((((((mk [st_me]).set st_one 1).set st_all threads).mark st_again).word 13 st_now st_base 0).doo 3 st_next st_now st_one).cas st_next st_base 0 st_now).iff 12 st_next st_again).doo 6 st_round st_now st_all).doo 3 st_round st_round st_one) 5 st_round st_round st_all hb10 (by decide)) [48, 152, 50, 128, 52] [48, 152, 50, 128, 52, 160] 22 160 4 rfl rfl rfl rfl rfl rfl rfl rfl Try.func54 rfl rfl rfl rfl ⟨rfl, rfl, rfl, rfl, rfl, trivial⟩ rfl rfl ?_
    have hb11 := ok_doo 5 st_round st_round st_all hb10
    refine e1 168 rfl ?_
    refine keep [4] rfl ?_
    refine r1 ?_
    refine s1 23 168 1 rfl rfl rfl rfl rfl rfl trivial ?_
    refine c1 (mark_any (((((((((((mk [st_me]).set st_one 1).set st_all threads).mark st_again).word 13 st_now st_base 0).doo 3 st_next st_now st_one).cas st_next st_base 0 st_now).iff 12 st_next st_again).doo 6 st_round st_now st_all).doo 3 st_round st_round st_one).doo 5 st_round st_round st_all) st_wait hb11 (by decide)) [48, 160, 50, 128, 52] [48, 160, 50, 128, 52] 24 176 2 rfl rfl rfl rfl rfl rfl rfl rfl Try.func53 rfl rfl rfl rfl ⟨rfl, rfl, rfl, rfl, rfl, trivial⟩ rfl rfl ?_
    have hb12 := ok_mark st_wait hb11
    refine c1 (word_any ((((((((((((mk [st_me]).set st_one 1).set st_all threads).mark st_again).word 13 st_now st_base 0).doo 3 st_next st_now st_one).cas st_next st_base 0 st_now).iff 12 st_next st_again).doo 6 st_round st_now st_all).doo 3 st_round st_round st_one).doo 5 st_round st_round st_all).mark st_wait) 13 st_now st_base 0 hb12 (by decide)) [48, 160, 50, 128, 52] [48, 160, 50, 128, 52, 184] 25 184 3 rfl rfl rfl rfl rfl rfl rfl rfl Try.func52 rfl rfl rfl rfl ⟨rfl, rfl, rfl, rfl, rfl, trivial⟩ rfl rfl ?_
    have hb13 := ok_word 13 st_now st_base 0 hb12
    refine c1 (doo_any (((((((((((((mk [st_me]).set st_one 1).set st_all threads).mark st_again).word 13 st_now st_base 0).doo 3 st_next st_now st_one).cas st_next st_base 0 st_now).iff 12 st_next st_again).doo 6 st_round st_now st_all).doo 3 st_round st_round st_one).doo 5 st_round st_round st_all).mark st_wait).word 13 st_now st_base 0) 9 st_less st_now st_round hb13 (by decide)) [48, 184, 50, 128, 52] [48, 184, 50, 128, 52, 192] 26 192 4 rfl rfl rfl rfl rfl rfl rfl rfl Try.func54 rfl rfl rfl rfl ⟨rfl, rfl, rfl, rfl, rfl, trivial⟩ rfl rfl ?_
    have hb14 := ok_doo 9 st_less st_now st_round hb13
    refine c1 (iff_any ((((((((((((((mk [st_me]).set st_one 1).set st_all threads).mark st_again).word 13 st_now st_base 0).doo 3 st_next st_now st_one).cas st_next st_base 0 st_now).iff 12 st_next st_again).doo 6 st_round st_now st_all).doo 3 st_round st_round st_one).doo 5 st_round st_round st_all).mark st_wait).word 13 st_now st_base 0).doo 9 st_less st_now st_round) 11 st_less st_wait hb14 (by decide)) [48, 192, 50, 128, 52] [48, 192, 50, 128, 52, 200, 201] 27 200 5 rfl rfl rfl rfl rfl rfl rfl rfl Try.func55 rfl rfl rfl rfl ⟨rfl, rfl, rfl, rfl, rfl, trivial⟩ rfl rfl ?_
    have hb15 := ok_iff 11 st_less st_wait hb14
    refine e1 208 rfl ?_
    refine keep [4] rfl ?_
    refine r1 ?_
    refine s1 28 208 1 rfl rfl rfl rfl rfl rfl trivial ?_
    refine c1 (ops_any (((((((((((((((mk [st_me]).set st_one 1).set st_all threads).mark st_again).word 13 st_now st_base 0).doo 3 st_next st_now st_one).cas st_next st_base 0 st_now).iff 12 st_next st_again).doo 6 st_round st_now st_all).doo 3 st_round st_round st_one).doo 5 st_round st_round st_all).mark st_wait).word 13 st_now st_base 0).doo 9 st_less st_now st_round).iff 11 st_less st_wait) hb15 (by decide)) [48, 201, 50, 200, 52] [48, 201, 50, 200, 52] 29 216 2 rfl rfl rfl rfl rfl rfl rfl rfl Try.func49 rfl rfl rfl rfl ⟨rfl, rfl, rfl, rfl, rfl, trivial⟩ rfl rfl ?_
    refine s1 2 224 3 rfl rfl rfl rfl rfl rfl trivial ?_
    refine s1 3 232 4 rfl rfl rfl rfl rfl rfl trivial ?_
    refine e1 240 rfl ?_
    refine keep [2, 3] rfl ?_
    refine W_ret ?_
    exact out2 2 3 (.sl 0 0 (fin (B_Wait threads)).length) (SV.i 0) (π := [201]) (hout := [some (.rows 42 5 (fin (B_Wait threads)).length (insF (fin (B_Wait threads))))]) Try.results27 rfl rfl rfl rfl rfl rfl ⟨rfl, trivial⟩ ⟨rfl, rfl⟩

theorem ok_Wait {threads : Int} (h : 1 ≤ threads ∧ threads ≤ 4) : mayB (fin (B_Wait threads)) = true ∧ 0 < (fin (B_Wait threads)).length ∧ (fin (B_Wait threads)).length ≤ 1000 := by
  obtain rfl | rfl | rfl | rfl : threads = 1 ∨ threads = 2 ∨ threads = 3 ∨ threads = 4 := (by omega)
  all_goals decide +kernel

theorem law_yes (threads : Int) (hr : 1 ≤ threads ∧ threads ≤ 4) : Spec Try.prog GV 7 [SV.i threads] [] (fun r _ => r = SV.b true) := by
  refine start 64 0 Try.func7 rfl rfl rfl rfl ?_
  refine r1 ?_
  refine s1 2 0 1 rfl rfl rfl rfl rfl rfl trivial ?_
  refine e1 8 rfl ?_
  refine keep [0] rfl ?_
  refine r1 ?_
  refine s1 8 8 1 rfl rfl rfl rfl rfl rfl trivial ?_
  refine c1 (yes_Words threads hr) [] [16] 9 16 2 rfl rfl rfl rfl rfl rfl rfl rfl Try.func26 rfl rfl rfl rfl trivial rfl rfl ?_
  refine s1 7 24 3 rfl rfl rfl rfl rfl rfl trivial ?_
  refine s1 10 32 4 rfl rfl rfl rfl rfl rfl trivial ?_
  refine s1 11 40 5 rfl rfl rfl rfl rfl rfl trivial ?_
  refine s1 3 48 6 rfl rfl rfl rfl rfl rfl trivial ?_
  refine s1 4 56 7 rfl rfl rfl rfl rfl rfl trivial ?_
  refine e1 64 rfl ?_
  refine keep [0, 3, 4] rfl ?_
  refine r1 ?_
  refine s1 13 64 1 rfl rfl rfl rfl rfl rfl trivial ?_
  refine c1 (yes_Wait threads hr) [] [72] 14 72 2 rfl rfl rfl rfl rfl rfl rfl rfl Try.func27 rfl rfl rfl rfl trivial rfl rfl ?_
  refine s1 12 80 3 rfl rfl rfl rfl rfl rfl trivial ?_
  refine s1 15 88 4 rfl rfl rfl rfl rfl rfl trivial ?_
  refine s1 16 96 5 rfl rfl rfl rfl rfl rfl trivial ?_
  refine s1 5 104 6 rfl rfl rfl rfl rfl rfl trivial ?_
  refine s1 6 112 7 rfl rfl rfl rfl rfl rfl trivial ?_
  refine e1 120 rfl ?_
  refine keep [0, 3, 4, 5, 6] rfl ?_
  refine W_seq ?_
  refine r1 ?_
  refine s1 17 120 1 rfl rfl rfl rfl rfl rfl trivial ?_
  refine s1 18 128 2 rfl rfl rfl rfl rfl rfl (by first | trivial | omega | (simp only [List.length_map, List.length_append, List.length_cons, List.length_nil] at *; omega)) ?_
  refine s1 19 136 3 rfl rfl rfl rfl rfl rfl trivial ?_
  refine ask 19 rfl (fun hg3_19 => ?_) (fun hg3_19 => ?_)
  · skip
    try simp only [decide_eq_true_eq, decide_eq_false_iff_not, Bool.not_eq_true', Bool.not_eq_false', beq_iff_eq, bne_iff_ne, beq_eq_false_iff_ne, Bool.and_eq_true, Bool.or_eq_true, Bool.and_eq_false_iff, Bool.or_eq_false_iff, ge_iff_le, gt_iff_lt, Int.not_lt, Int.not_le, ne_eq, Decidable.not_not, bne_eq_false_iff_eq] at hg3_19
    refine g0 2 false 19 20 4 rfl rfl rfl rfl rfl rfl ?_
    refine g0 2 false 19 21 5 rfl rfl rfl rfl rfl rfl ?_
    refine s1 22 160 6 rfl rfl rfl rfl rfl rfl trivial ?_
    refine e1 168 rfl ?_
    refine keep [3, 4, 5, 6, 22] rfl ?_
    refine q1 rfl (fun hc3 => ?_) (fun hc3 => ?_)
    · skip
      exfalso; simp at hc3; omega
    · skip
      exact absurd hc3 (by decide)
  · skip
    try simp only [decide_eq_true_eq, decide_eq_false_iff_not, Bool.not_eq_true', Bool.not_eq_false', beq_iff_eq, bne_iff_ne, beq_eq_false_iff_ne, Bool.and_eq_true, Bool.or_eq_true, Bool.and_eq_false_iff, Bool.or_eq_false_iff, ge_iff_le, gt_iff_lt, Int.not_lt, Int.not_le, ne_eq, Decidable.not_not, bne_eq_false_iff_eq] at hg3_19
    refine g1 2 false 19 20 4 rfl rfl rfl rfl rfl ?_
    refine s1 20 144 4 rfl rfl rfl rfl rfl rfl trivial ?_
    refine g1 2 false 19 21 5 rfl rfl rfl rfl rfl ?_
    refine s1 21 152 5 rfl rfl rfl rfl rfl rfl (by first | trivial | omega | (simp only [List.length_map, List.length_append, List.length_cons, List.length_nil] at *; omega)) ?_
    refine s1 22 160 6 rfl rfl rfl rfl rfl rfl trivial ?_
    refine e1 168 rfl ?_
    refine keep [3, 4, 5, 6, 22] rfl ?_
    refine q1 rfl (fun hc3 => ?_) (fun hc3 => ?_)
    · skip
      exfalso; simp at hc3; omega
    · skip
      try simp only [decide_eq_true_eq, decide_eq_false_iff_not, Bool.not_eq_true', Bool.not_eq_false', beq_iff_eq, bne_iff_ne, beq_eq_false_iff_ne, Bool.and_eq_true, Bool.or_eq_true, Bool.and_eq_false_iff, Bool.or_eq_false_iff, ge_iff_le, gt_iff_lt, Int.not_lt, Int.not_le, ne_eq, Decidable.not_not, bne_eq_false_iff_eq] at hc3
      refine W_skip ?_
      refine tn ?_
      refine freeze 5 72 (fin (B_Wait threads)).length rfl rfl (Nat.le_refl _) ?_
      have ho0 := ok_Wait hr
      refine r1 ?_
      refine s1 39 168 1 rfl rfl rfl rfl rfl rfl trivial ?_
      refine s1 40 176 2 rfl rfl rfl rfl rfl rfl (by first | trivial | omega | (simp only [List.length_map, List.length_append, List.length_cons, List.length_nil] at *; omega)) ?_
      refine s1 41 184 3 rfl rfl rfl rfl rfl rfl trivial ?_
      refine ask 41 rfl (fun hg5_41 => ?_) (fun hg5_41 => ?_)
      · skip
        try simp only [decide_eq_true_eq, decide_eq_false_iff_not, Bool.not_eq_true', Bool.not_eq_false', beq_iff_eq, bne_iff_ne, beq_eq_false_iff_ne, Bool.and_eq_true, Bool.or_eq_true, Bool.and_eq_false_iff, Bool.or_eq_false_iff, ge_iff_le, gt_iff_lt, Int.not_lt, Int.not_le, ne_eq, Decidable.not_not, bne_eq_false_iff_eq] at hg5_41
        refine g1 2 true 41 42 4 rfl rfl rfl rfl rfl ?_
        refine s1 42 192 4 rfl rfl rfl rfl rfl rfl trivial ?_
        refine g1 2 true 41 43 5 rfl rfl rfl rfl rfl ?_
        refine s1 43 200 5 rfl rfl rfl rfl rfl rfl (by first | trivial | omega | (simp only [List.length_map, List.length_append, List.length_cons, List.length_nil] at *; omega)) ?_
        refine s1 44 208 6 rfl rfl rfl rfl rfl rfl trivial ?_
        refine s1 45 216 7 rfl rfl rfl rfl rfl rfl trivial ?_
        refine ask 45 rfl (fun hg5_45 => ?_) (fun hg5_45 => ?_)
        · skip
          try simp only [decide_eq_true_eq, decide_eq_false_iff_not, Bool.not_eq_true', Bool.not_eq_false', beq_iff_eq, bne_iff_ne, beq_eq_false_iff_ne, Bool.and_eq_true, Bool.or_eq_true, Bool.and_eq_false_iff, Bool.or_eq_false_iff, ge_iff_le, gt_iff_lt, Int.not_lt, Int.not_le, ne_eq, Decidable.not_not, bne_eq_false_iff_eq] at hg5_45
          refine g1 6 true 45 46 8 rfl rfl rfl rfl rfl ?_
          refine s1 46 224 8 rfl rfl rfl rfl rfl rfl trivial ?_
          refine g1 6 true 45 47 9 rfl rfl rfl rfl rfl ?_
          refine s1 47 232 9 rfl rfl rfl rfl rfl rfl (by first | trivial | omega | (simp only [List.length_map, List.length_append, List.length_cons, List.length_nil] at *; omega)) ?_
          refine g1 6 true 45 48 10 rfl rfl rfl rfl rfl ?_
          refine s1 48 240 10 rfl rfl rfl rfl rfl rfl (by first | trivial | omega | (simp only [List.length_map, List.length_append, List.length_cons, List.length_nil] at *; omega)) ?_
          refine s1 49 248 11 rfl rfl rfl rfl rfl rfl trivial ?_
          refine s1 50 256 12 rfl rfl rfl rfl rfl rfl trivial ?_
          refine ask 50 rfl (fun hg5_50 => ?_) (fun hg5_50 => ?_)
          · skip
            try simp only [decide_eq_true_eq, decide_eq_false_iff_not, Bool.not_eq_true', Bool.not_eq_false', beq_iff_eq, bne_iff_ne, beq_eq_false_iff_ne, Bool.and_eq_true, Bool.or_eq_true, Bool.and_eq_false_iff, Bool.or_eq_false_iff, ge_iff_le, gt_iff_lt, Int.not_lt, Int.not_le, ne_eq, Decidable.not_not, bne_eq_false_iff_eq] at hg5_50
            refine g1 11 true 50 51 13 rfl rfl rfl rfl rfl ?_
            refine s1 51 264 13 rfl rfl rfl rfl rfl rfl trivial ?_
            refine g1 11 true 50 52 14 rfl rfl rfl rfl rfl ?_
            refine s1 52 272 14 rfl rfl rfl rfl rfl rfl (by first | trivial | omega | (simp only [List.length_map, List.length_append, List.length_cons, List.length_nil] at *; omega)) ?_
            refine g1 11 true 50 53 15 rfl rfl rfl rfl rfl ?_
            refine s1 53 280 15 rfl rfl rfl rfl rfl rfl (by first | trivial | omega | (simp only [List.length_map, List.length_append, List.length_cons, List.length_nil] at *; omega)) ?_
            refine s1 54 288 16 rfl rfl rfl rfl rfl rfl trivial ?_
            refine s1 55 296 17 rfl rfl rfl rfl rfl rfl trivial ?_
            refine ask 55 rfl (fun hg5_55 => ?_) (fun hg5_55 => ?_)
            · skip
              try simp only [decide_eq_true_eq, decide_eq_false_iff_not, Bool.not_eq_true', Bool.not_eq_false', beq_iff_eq, bne_iff_ne, beq_eq_false_iff_ne, Bool.and_eq_true, Bool.or_eq_true, Bool.and_eq_false_iff, Bool.or_eq_false_iff, ge_iff_le, gt_iff_lt, Int.not_lt, Int.not_le, ne_eq, Decidable.not_not, bne_eq_false_iff_eq] at hg5_55
              refine g1 16 true 55 56 18 rfl rfl rfl rfl rfl ?_
              refine s1 56 304 18 rfl rfl rfl rfl rfl rfl trivial ?_
              refine g1 16 true 55 57 19 rfl rfl rfl rfl rfl ?_
              refine s1 57 312 19 rfl rfl rfl rfl rfl rfl (by first | trivial | omega | (simp only [List.length_map, List.length_append, List.length_cons, List.length_nil] at *; omega)) ?_
              refine g1 16 true 55 58 20 rfl rfl rfl rfl rfl ?_
              refine s1 58 320 20 rfl rfl rfl rfl rfl rfl (by first | trivial | omega | (simp only [List.length_map, List.length_append, List.length_cons, List.length_nil] at *; omega)) ?_
              refine s1 59 328 21 rfl rfl rfl rfl rfl rfl trivial ?_
              refine s1 60 336 22 rfl rfl rfl rfl rfl rfl trivial ?_
              refine ask 60 rfl (fun hg5_60 => ?_) (fun hg5_60 => ?_)
              · skip
                try simp only [decide_eq_true_eq, decide_eq_false_iff_not, Bool.not_eq_true', Bool.not_eq_false', beq_iff_eq, bne_iff_ne, beq_eq_false_iff_ne, Bool.and_eq_true, Bool.or_eq_true, Bool.and_eq_false_iff, Bool.or_eq_false_iff, ge_iff_le, gt_iff_lt, Int.not_lt, Int.not_le, ne_eq, Decidable.not_not, bne_eq_false_iff_eq] at hg5_60
                refine g1 21 true 60 61 23 rfl rfl rfl rfl rfl ?_
                refine s1 61 344 23 rfl rfl rfl rfl rfl rfl trivial ?_
                refine g1 21 true 60 62 24 rfl rfl rfl rfl rfl ?_
                refine c1 (codeMay_any (fin (B_Wait threads)) (Nat.le_trans (ok_Wait hr).2.2 (by decide))) [] [] 62 352 24 rfl rfl rfl rfl rfl rfl rfl rfl Try.func15 rfl rfl rfl rfl trivial rfl rfl ?_
                refine val 62 (SV.b true) rfl (by rw [(ok_Wait hr).1]) ?_
                refine s1 63 360 25 rfl rfl rfl rfl rfl rfl trivial ?_
                refine s1 2 368 26 rfl rfl rfl rfl rfl rfl trivial ?_
                refine e1 376 rfl ?_
                refine keep [2] rfl ?_
                refine W_ret ?_
                exact out1 2 (SV.b true) (π := []) (hout := []) Try.results7 rfl (by first | rfl | (simp; done) | (simp [*]; done)) rfl rfl trivial rfl
              · skip
                try simp only [decide_eq_true_eq, decide_eq_false_iff_not, Bool.not_eq_true', Bool.not_eq_false', beq_iff_eq, bne_iff_ne, beq_eq_false_iff_ne, Bool.and_eq_true, Bool.or_eq_true, Bool.and_eq_false_iff, Bool.or_eq_false_iff, ge_iff_le, gt_iff_lt, Int.not_lt, Int.not_le, ne_eq, Decidable.not_not, bne_eq_false_iff_eq] at hg5_60
                all_goals (exfalso; first | (simp at hg5_60; done) | (simp at hg5_60; omega) | (simp_all; omega) | omega)
            · skip
              try simp only [decide_eq_true_eq, decide_eq_false_iff_not, Bool.not_eq_true', Bool.not_eq_false', beq_iff_eq, bne_iff_ne, beq_eq_false_iff_ne, Bool.and_eq_true, Bool.or_eq_true, Bool.and_eq_false_iff, Bool.or_eq_false_iff, ge_iff_le, gt_iff_lt, Int.not_lt, Int.not_le, ne_eq, Decidable.not_not, bne_eq_false_iff_eq] at hg5_55
              all_goals (exfalso; first | (simp at hg5_55; done) | (simp at hg5_55; omega) | (simp_all; omega) | omega)
          · skip
            try simp only [decide_eq_true_eq, decide_eq_false_iff_not, Bool.not_eq_true', Bool.not_eq_false', beq_iff_eq, bne_iff_ne, beq_eq_false_iff_ne, Bool.and_eq_true, Bool.or_eq_true, Bool.and_eq_false_iff, Bool.or_eq_false_iff, ge_iff_le, gt_iff_lt, Int.not_lt, Int.not_le, ne_eq, Decidable.not_not, bne_eq_false_iff_eq] at hg5_50
            all_goals (exfalso; first | (simp at hg5_50; done) | (simp at hg5_50; omega) | (simp_all; omega) | omega)
        · skip
          try simp only [decide_eq_true_eq, decide_eq_false_iff_not, Bool.not_eq_true', Bool.not_eq_false', beq_iff_eq, bne_iff_ne, beq_eq_false_iff_ne, Bool.and_eq_true, Bool.or_eq_true, Bool.and_eq_false_iff, Bool.or_eq_false_iff, ge_iff_le, gt_iff_lt, Int.not_lt, Int.not_le, ne_eq, Decidable.not_not, bne_eq_false_iff_eq] at hg5_45
          all_goals (exfalso; first | (simp at hg5_45; done) | (simp at hg5_45; omega) | (simp_all; omega) | omega)
      · skip
        try simp only [decide_eq_true_eq, decide_eq_false_iff_not, Bool.not_eq_true', Bool.not_eq_false', beq_iff_eq, bne_iff_ne, beq_eq_false_iff_ne, Bool.and_eq_true, Bool.or_eq_true, Bool.and_eq_false_iff, Bool.or_eq_false_iff, ge_iff_le, gt_iff_lt, Int.not_lt, Int.not_le, ne_eq, Decidable.not_not, bne_eq_false_iff_eq] at hg5_41
        all_goals (exfalso; first | (simp at hg5_41; done) | (simp at hg5_41; omega) | (simp_all; omega) | omega)

theorem law_no (threads : Int) (hr : ¬ (1 ≤ threads ∧ threads ≤ 4)) : Spec Try.prog GV 7 [SV.i threads] [] (fun r _ => r = SV.b true) := by
  refine start 64 0 Try.func7 rfl rfl rfl rfl ?_
  refine r1 ?_
  refine s1 2 0 1 rfl rfl rfl rfl rfl rfl trivial ?_
  refine e1 8 rfl ?_
  refine keep [0] rfl ?_
  refine r1 ?_
  refine s1 8 8 1 rfl rfl rfl rfl rfl rfl trivial ?_
  refine c1 (no_Words threads hr) [] [] 9 16 2 rfl rfl rfl rfl rfl rfl rfl rfl Try.func26 rfl rfl rfl rfl trivial rfl rfl ?_
  refine s1 7 24 3 rfl rfl rfl rfl rfl rfl trivial ?_
  refine s1 10 32 4 rfl rfl rfl rfl rfl rfl trivial ?_
  refine s1 11 40 5 rfl rfl rfl rfl rfl rfl trivial ?_
  refine s1 3 48 6 rfl rfl rfl rfl rfl rfl trivial ?_
  refine s1 4 56 7 rfl rfl rfl rfl rfl rfl trivial ?_
  refine e1 64 rfl ?_
  refine keep [0, 3, 4] rfl ?_
  refine r1 ?_
  refine s1 13 64 1 rfl rfl rfl rfl rfl rfl trivial ?_
  refine c1 (no_Wait threads hr) [] [] 14 72 2 rfl rfl rfl rfl rfl rfl rfl rfl Try.func27 rfl rfl rfl rfl trivial rfl rfl ?_
  refine s1 12 80 3 rfl rfl rfl rfl rfl rfl trivial ?_
  refine s1 15 88 4 rfl rfl rfl rfl rfl rfl trivial ?_
  refine s1 16 96 5 rfl rfl rfl rfl rfl rfl trivial ?_
  refine s1 5 104 6 rfl rfl rfl rfl rfl rfl trivial ?_
  refine s1 6 112 7 rfl rfl rfl rfl rfl rfl trivial ?_
  refine e1 120 rfl ?_
  refine keep [0, 3, 4, 5, 6] rfl ?_
  refine W_seq ?_
  refine r1 ?_
  refine s1 17 120 1 rfl rfl rfl rfl rfl rfl trivial ?_
  refine s1 18 128 2 rfl rfl rfl rfl rfl rfl (by first | trivial | omega | (simp only [List.length_map, List.length_append, List.length_cons, List.length_nil] at *; omega)) ?_
  refine s1 19 136 3 rfl rfl rfl rfl rfl rfl trivial ?_
  refine ask 19 rfl (fun hg3_19 => ?_) (fun hg3_19 => ?_)
  · skip
    try simp only [decide_eq_true_eq, decide_eq_false_iff_not, Bool.not_eq_true', Bool.not_eq_false', beq_iff_eq, bne_iff_ne, beq_eq_false_iff_ne, Bool.and_eq_true, Bool.or_eq_true, Bool.and_eq_false_iff, Bool.or_eq_false_iff, ge_iff_le, gt_iff_lt, Int.not_lt, Int.not_le, ne_eq, Decidable.not_not, bne_eq_false_iff_eq] at hg3_19
    refine g0 2 false 19 20 4 rfl rfl rfl rfl rfl rfl ?_
    refine g0 2 false 19 21 5 rfl rfl rfl rfl rfl rfl ?_
    refine s1 22 160 6 rfl rfl rfl rfl rfl rfl trivial ?_
    refine e1 168 rfl ?_
    refine keep [3, 4, 5, 6, 22] rfl ?_
    refine q1 rfl (fun hc3 => ?_) (fun hc3 => ?_)
    · skip
      try simp only [decide_eq_true_eq, decide_eq_false_iff_not, Bool.not_eq_true', Bool.not_eq_false', beq_iff_eq, bne_iff_ne, beq_eq_false_iff_ne, Bool.and_eq_true, Bool.or_eq_true, Bool.and_eq_false_iff, Bool.or_eq_false_iff, ge_iff_le, gt_iff_lt, Int.not_lt, Int.not_le, ne_eq, Decidable.not_not, bne_eq_false_iff_eq] at hc3
      refine r1 ?_
      refine s1 23 168 1 rfl rfl rfl rfl rfl rfl trivial ?_
      refine s1 24 176 2 rfl rfl rfl rfl rfl rfl (by first | trivial | omega | (simp only [List.length_map, List.length_append, List.length_cons, List.length_nil] at *; omega)) ?_
      refine s1 25 184 3 rfl rfl rfl rfl rfl rfl (by first | trivial | omega | (simp only [List.length_map, List.length_append, List.length_cons, List.length_nil] at *; omega)) ?_
      refine s1 26 192 4 rfl rfl rfl rfl rfl rfl trivial ?_
      refine ask 26 rfl (fun hg4_26 => ?_) (fun hg4_26 => ?_)
      · skip
        try simp only [decide_eq_true_eq, decide_eq_false_iff_not, Bool.not_eq_true', Bool.not_eq_false', beq_iff_eq, bne_iff_ne, beq_eq_false_iff_ne, Bool.and_eq_true, Bool.or_eq_true, Bool.and_eq_false_iff, Bool.or_eq_false_iff, ge_iff_le, gt_iff_lt, Int.not_lt, Int.not_le, ne_eq, Decidable.not_not, bne_eq_false_iff_eq] at hg4_26
        refine g1 3 true 26 27 5 rfl rfl rfl rfl rfl ?_
        refine s1 27 200 5 rfl rfl rfl rfl rfl rfl trivial ?_
        refine g1 3 true 26 28 6 rfl rfl rfl rfl rfl ?_
        refine s1 28 208 6 rfl rfl rfl rfl rfl rfl (by first | trivial | omega | (simp only [List.length_map, List.length_append, List.length_cons, List.length_nil] at *; omega)) ?_
        refine g1 3 true 26 29 7 rfl rfl rfl rfl rfl ?_
        refine s1 29 216 7 rfl rfl rfl rfl rfl rfl (by first | trivial | omega | (simp only [List.length_map, List.length_append, List.length_cons, List.length_nil] at *; omega)) ?_
        refine s1 30 224 8 rfl rfl rfl rfl rfl rfl trivial ?_
        refine s1 31 232 9 rfl rfl rfl rfl rfl rfl trivial ?_
        refine ask 31 rfl (fun hg4_31 => ?_) (fun hg4_31 => ?_)
        · skip
          try simp only [decide_eq_true_eq, decide_eq_false_iff_not, Bool.not_eq_true', Bool.not_eq_false', beq_iff_eq, bne_iff_ne, beq_eq_false_iff_ne, Bool.and_eq_true, Bool.or_eq_true, Bool.and_eq_false_iff, Bool.or_eq_false_iff, ge_iff_le, gt_iff_lt, Int.not_lt, Int.not_le, ne_eq, Decidable.not_not, bne_eq_false_iff_eq] at hg4_31
          refine g1 8 true 31 32 10 rfl rfl rfl rfl rfl ?_
          refine s1 32 240 10 rfl rfl rfl rfl rfl rfl trivial ?_
          refine g1 8 true 31 33 11 rfl rfl rfl rfl rfl ?_
          refine s1 33 248 11 rfl rfl rfl rfl rfl rfl (by first | trivial | omega | (simp only [List.length_map, List.length_append, List.length_cons, List.length_nil] at *; omega)) ?_
          refine s1 34 256 12 rfl rfl rfl rfl rfl rfl trivial ?_
          refine s1 35 264 13 rfl rfl rfl rfl rfl rfl trivial ?_
          refine ask 35 rfl (fun hg4_35 => ?_) (fun hg4_35 => ?_)
          · skip
            try simp only [decide_eq_true_eq, decide_eq_false_iff_not, Bool.not_eq_true', Bool.not_eq_false', beq_iff_eq, bne_iff_ne, beq_eq_false_iff_ne, Bool.and_eq_true, Bool.or_eq_true, Bool.and_eq_false_iff, Bool.or_eq_false_iff, ge_iff_le, gt_iff_lt, Int.not_lt, Int.not_le, ne_eq, Decidable.not_not, bne_eq_false_iff_eq] at hg4_35
            refine g1 12 true 35 36 14 rfl rfl rfl rfl rfl ?_
            refine s1 36 272 14 rfl rfl rfl rfl rfl rfl trivial ?_
            refine g1 12 true 35 37 15 rfl rfl rfl rfl rfl ?_
            refine s1 37 280 15 rfl rfl rfl rfl rfl rfl (by first | trivial | omega | (simp only [List.length_map, List.length_append, List.length_cons, List.length_nil] at *; omega)) ?_
            refine s1 38 288 16 rfl rfl rfl rfl rfl rfl trivial ?_
            refine s1 2 296 17 rfl rfl rfl rfl rfl rfl trivial ?_
            refine e1 304 rfl ?_
            refine keep [2] rfl ?_
            refine W_ret ?_
            refine tr ?_
            exact out1 2 (SV.b true) (π := []) (hout := []) Try.results7 rfl (by first | rfl | (simp; done) | (simp [*]; done)) rfl rfl trivial rfl
          · skip
            try simp only [decide_eq_true_eq, decide_eq_false_iff_not, Bool.not_eq_true', Bool.not_eq_false', beq_iff_eq, bne_iff_ne, beq_eq_false_iff_ne, Bool.and_eq_true, Bool.or_eq_true, Bool.and_eq_false_iff, Bool.or_eq_false_iff, ge_iff_le, gt_iff_lt, Int.not_lt, Int.not_le, ne_eq, Decidable.not_not, bne_eq_false_iff_eq] at hg4_35
            all_goals (exfalso; first | (simp at hg4_35; done) | (simp at hg4_35; omega) | (simp_all; omega) | omega)
        · skip
          try simp only [decide_eq_true_eq, decide_eq_false_iff_not, Bool.not_eq_true', Bool.not_eq_false', beq_iff_eq, bne_iff_ne, beq_eq_false_iff_ne, Bool.and_eq_true, Bool.or_eq_true, Bool.and_eq_false_iff, Bool.or_eq_false_iff, ge_iff_le, gt_iff_lt, Int.not_lt, Int.not_le, ne_eq, Decidable.not_not, bne_eq_false_iff_eq] at hg4_31
          all_goals (exfalso; first | (simp at hg4_31; done) | (simp at hg4_31; omega) | (simp_all; omega) | omega)
      · skip
        try simp only [decide_eq_true_eq, decide_eq_false_iff_not, Bool.not_eq_true', Bool.not_eq_false', beq_iff_eq, bne_iff_ne, beq_eq_false_iff_ne, Bool.and_eq_true, Bool.or_eq_true, Bool.and_eq_false_iff, Bool.or_eq_false_iff, ge_iff_le, gt_iff_lt, Int.not_lt, Int.not_le, ne_eq, Decidable.not_not, bne_eq_false_iff_eq] at hg4_26
        all_goals (exfalso; first | (simp at hg4_26; done) | (simp at hg4_26; omega) | (simp_all; omega) | omega)
    · skip
      exact absurd hc3 (by decide)
  · skip
    try simp only [decide_eq_true_eq, decide_eq_false_iff_not, Bool.not_eq_true', Bool.not_eq_false', beq_iff_eq, bne_iff_ne, beq_eq_false_iff_ne, Bool.and_eq_true, Bool.or_eq_true, Bool.and_eq_false_iff, Bool.or_eq_false_iff, ge_iff_le, gt_iff_lt, Int.not_lt, Int.not_le, ne_eq, Decidable.not_not, bne_eq_false_iff_eq] at hg3_19
    refine g1 2 false 19 20 4 rfl rfl rfl rfl rfl ?_
    refine s1 20 144 4 rfl rfl rfl rfl rfl rfl trivial ?_
    refine g1 2 false 19 21 5 rfl rfl rfl rfl rfl ?_
    refine s1 21 152 5 rfl rfl rfl rfl rfl rfl (by first | trivial | omega | (simp only [List.length_map, List.length_append, List.length_cons, List.length_nil] at *; omega)) ?_
    refine s1 22 160 6 rfl rfl rfl rfl rfl rfl trivial ?_
    refine e1 168 rfl ?_
    refine keep [3, 4, 5, 6, 22] rfl ?_
    refine q1 rfl (fun hc3 => ?_) (fun hc3 => ?_)
    · skip
      try simp only [decide_eq_true_eq, decide_eq_false_iff_not, Bool.not_eq_true', Bool.not_eq_false', beq_iff_eq, bne_iff_ne, beq_eq_false_iff_ne, Bool.and_eq_true, Bool.or_eq_true, Bool.and_eq_false_iff, Bool.or_eq_false_iff, ge_iff_le, gt_iff_lt, Int.not_lt, Int.not_le, ne_eq, Decidable.not_not, bne_eq_false_iff_eq] at hc3
      refine r1 ?_
      refine s1 23 168 1 rfl rfl rfl rfl rfl rfl trivial ?_
      refine s1 24 176 2 rfl rfl rfl rfl rfl rfl (by first | trivial | omega | (simp only [List.length_map, List.length_append, List.length_cons, List.length_nil] at *; omega)) ?_
      refine s1 25 184 3 rfl rfl rfl rfl rfl rfl (by first | trivial | omega | (simp only [List.length_map, List.length_append, List.length_cons, List.length_nil] at *; omega)) ?_
      refine s1 26 192 4 rfl rfl rfl rfl rfl rfl trivial ?_
      refine ask 26 rfl (fun hg4_26 => ?_) (fun hg4_26 => ?_)
      · skip
        try simp only [decide_eq_true_eq, decide_eq_false_iff_not, Bool.not_eq_true', Bool.not_eq_false', beq_iff_eq, bne_iff_ne, beq_eq_false_iff_ne, Bool.and_eq_true, Bool.or_eq_true, Bool.and_eq_false_iff, Bool.or_eq_false_iff, ge_iff_le, gt_iff_lt, Int.not_lt, Int.not_le, ne_eq, Decidable.not_not, bne_eq_false_iff_eq] at hg4_26
        refine g1 3 true 26 27 5 rfl rfl rfl rfl rfl ?_
        refine s1 27 200 5 rfl rfl rfl rfl rfl rfl trivial ?_
        refine g1 3 true 26 28 6 rfl rfl rfl rfl rfl ?_
        refine s1 28 208 6 rfl rfl rfl rfl rfl rfl (by first | trivial | omega | (simp only [List.length_map, List.length_append, List.length_cons, List.length_nil] at *; omega)) ?_
        refine g1 3 true 26 29 7 rfl rfl rfl rfl rfl ?_
        refine s1 29 216 7 rfl rfl rfl rfl rfl rfl (by first | trivial | omega | (simp only [List.length_map, List.length_append, List.length_cons, List.length_nil] at *; omega)) ?_
        refine s1 30 224 8 rfl rfl rfl rfl rfl rfl trivial ?_
        refine s1 31 232 9 rfl rfl rfl rfl rfl rfl trivial ?_
        refine ask 31 rfl (fun hg4_31 => ?_) (fun hg4_31 => ?_)
        · skip
          try simp only [decide_eq_true_eq, decide_eq_false_iff_not, Bool.not_eq_true', Bool.not_eq_false', beq_iff_eq, bne_iff_ne, beq_eq_false_iff_ne, Bool.and_eq_true, Bool.or_eq_true, Bool.and_eq_false_iff, Bool.or_eq_false_iff, ge_iff_le, gt_iff_lt, Int.not_lt, Int.not_le, ne_eq, Decidable.not_not, bne_eq_false_iff_eq] at hg4_31
          refine g1 8 true 31 32 10 rfl rfl rfl rfl rfl ?_
          refine s1 32 240 10 rfl rfl rfl rfl rfl rfl trivial ?_
          refine g1 8 true 31 33 11 rfl rfl rfl rfl rfl ?_
          refine s1 33 248 11 rfl rfl rfl rfl rfl rfl (by first | trivial | omega | (simp only [List.length_map, List.length_append, List.length_cons, List.length_nil] at *; omega)) ?_
          refine s1 34 256 12 rfl rfl rfl rfl rfl rfl trivial ?_
          refine s1 35 264 13 rfl rfl rfl rfl rfl rfl trivial ?_
          refine ask 35 rfl (fun hg4_35 => ?_) (fun hg4_35 => ?_)
          · skip
            try simp only [decide_eq_true_eq, decide_eq_false_iff_not, Bool.not_eq_true', Bool.not_eq_false', beq_iff_eq, bne_iff_ne, beq_eq_false_iff_ne, Bool.and_eq_true, Bool.or_eq_true, Bool.and_eq_false_iff, Bool.or_eq_false_iff, ge_iff_le, gt_iff_lt, Int.not_lt, Int.not_le, ne_eq, Decidable.not_not, bne_eq_false_iff_eq] at hg4_35
            refine g1 12 true 35 36 14 rfl rfl rfl rfl rfl ?_
            refine s1 36 272 14 rfl rfl rfl rfl rfl rfl trivial ?_
            refine g1 12 true 35 37 15 rfl rfl rfl rfl rfl ?_
            refine s1 37 280 15 rfl rfl rfl rfl rfl rfl (by first | trivial | omega | (simp only [List.length_map, List.length_append, List.length_cons, List.length_nil] at *; omega)) ?_
            refine s1 38 288 16 rfl rfl rfl rfl rfl rfl trivial ?_
            refine s1 2 296 17 rfl rfl rfl rfl rfl rfl trivial ?_
            refine e1 304 rfl ?_
            refine keep [2] rfl ?_
            refine W_ret ?_
            refine tr ?_
            exact out1 2 (SV.b true) (π := []) (hout := []) Try.results7 rfl (by first | rfl | (simp; done) | (simp [*]; done)) rfl rfl trivial rfl
          · skip
            try simp only [decide_eq_true_eq, decide_eq_false_iff_not, Bool.not_eq_true', Bool.not_eq_false', beq_iff_eq, bne_iff_ne, beq_eq_false_iff_ne, Bool.and_eq_true, Bool.or_eq_true, Bool.and_eq_false_iff, Bool.or_eq_false_iff, ge_iff_le, gt_iff_lt, Int.not_lt, Int.not_le, ne_eq, Decidable.not_not, bne_eq_false_iff_eq] at hg4_35
            all_goals (exfalso; first | (simp at hg4_35; done) | (simp at hg4_35; omega) | (simp_all; omega) | omega)
        · skip
          try simp only [decide_eq_true_eq, decide_eq_false_iff_not, Bool.not_eq_true', Bool.not_eq_false', beq_iff_eq, bne_iff_ne, beq_eq_false_iff_ne, Bool.and_eq_true, Bool.or_eq_true, Bool.and_eq_false_iff, Bool.or_eq_false_iff, ge_iff_le, gt_iff_lt, Int.not_lt, Int.not_le, ne_eq, Decidable.not_not, bne_eq_false_iff_eq] at hg4_31
          all_goals (exfalso; first | (simp at hg4_31; done) | (simp at hg4_31; omega) | (simp_all; omega) | omega)
      · skip
        try simp only [decide_eq_true_eq, decide_eq_false_iff_not, Bool.not_eq_true', Bool.not_eq_false', beq_iff_eq, bne_iff_ne, beq_eq_false_iff_ne, Bool.and_eq_true, Bool.or_eq_true, Bool.and_eq_false_iff, Bool.or_eq_false_iff, ge_iff_le, gt_iff_lt, Int.not_lt, Int.not_le, ne_eq, Decidable.not_not, bne_eq_false_iff_eq] at hg4_26
        all_goals (exfalso; first | (simp at hg4_26; done) | (simp at hg4_26; omega) | (simp_all; omega) | omega)
    · skip
      exfalso; simp at hc3; omega

theorem law_all (threads : Int) : Spec Try.prog GV 7 [SV.i threads] [] (fun r _ => r = SV.b true) := by
  by_cases hr : 1 ≤ threads ∧ threads ≤ 4
  · exact law_yes threads hr
  · exact law_no threads hr

end Go.Proofs.Ytnmbdggdilbdaaa.Nice
