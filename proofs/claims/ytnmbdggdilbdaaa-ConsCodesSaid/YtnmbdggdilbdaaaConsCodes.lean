/- The codes of package cons, and the law ConsCodes. -/
import Derived.Test.YtnmbdggdilbdaaaCodeMay
namespace Go.Proofs.Ytnmbdggdilbdaaa.Nice
open Go
set_option linter.unusedVariables false
set_option linter.unusedSimpArgs false
set_option maxRecDepth 100000
set_option maxHeartbeats 4000000
abbrev st_base : ByteArray := ⟨#[98, 97, 115, 101]⟩
abbrev st_none : ByteArray := ⟨#[110, 111, 110, 101]⟩
abbrev st_v : ByteArray := ⟨#[118]⟩
theorem yes_Words  : Spec Try.prog GV 16 [] [] (fun r ho => r = .sl 0 0 1 ∧ ho = [none]) := by
  refine start 2 0 Try.func16 rfl rfl rfl rfl ?_
  refine r1 ?_
  refine s1 0 0 1 rfl rfl rfl rfl rfl rfl trivial ?_
  refine e1 8 rfl ?_
  refine keep [] rfl ?_
  refine r1 ?_
  refine s1 1 8 1 rfl rfl rfl rfl rfl rfl trivial ?_
  refine s1 0 16 2 rfl rfl rfl rfl rfl rfl trivial ?_
  refine e1 24 rfl ?_
  refine keep [0] rfl ?_
  refine W_ret ?_
  exact out1 0 (.sl 0 0 1) (π := [8]) (hout := [none]) Try.results16 rfl rfl rfl rfl trivial ⟨rfl, rfl⟩

def B_Propose : Bld := (((((mk [st_v]).set st_none (-1)).cas st_v st_base 0 st_none).word 13 st_v st_base 0).tell st_v)
theorem yes_Propose  : Spec Try.prog GV 17 [] [] (fun r ho => r = .sl 0 0 (fin B_Propose).length ∧ ho = [some (.rows 42 5 (fin B_Propose).length (insF (fin B_Propose)))]) := by
  refine start 11 0 Try.func17 rfl rfl rfl rfl ?_
  refine r1 ?_
  refine s1 0 0 1 rfl rfl rfl rfl rfl rfl trivial ?_
  refine e1 8 rfl ?_
  refine keep [] rfl ?_
  refine r1 ?_
  refine sLit 1 (strsF [st_v]) 2 8 1 rfl rfl rfl rfl rfl rfl rfl rfl rfl (by intro i c hi hc; obtain rfl : i = 0 := (by omega); obtain rfl : c = 0 := (by omega); rfl) ?_
  refine c1 (new_any [st_v] (by decide)) [] [16, 17, 18, 19, 20] 3 16 2 rfl rfl rfl rfl rfl rfl rfl rfl Try.func45 rfl rfl rfl rfl trivial rfl rfl ?_
  have hb1 := ok_mk [st_v]
  refine c1 (set_any (mk [st_v]) st_none (-1) hb1 (by decide)) [16, 17, 18, 19, 20] [16, 17, 18, 19, 20, 24] 4 24 3 rfl rfl rfl rfl rfl rfl rfl rfl Try.func46 rfl rfl rfl rfl ⟨rfl, rfl, rfl, rfl, rfl, trivial⟩ rfl rfl ?_
  have hb2 := ok_set st_none (-1) hb1
  refine c1 (cas_any ((mk [st_v]).set st_none (-1)) st_v st_base 0 st_none hb2 (by decide)) [16, 24, 18, 19, 20] [16, 24, 18, 19, 20, 32] 5 32 4 rfl rfl rfl rfl rfl rfl rfl rfl Try.func47 rfl rfl rfl rfl ⟨rfl, rfl, rfl, rfl, rfl, trivial⟩ rfl rfl ?_
  have hb3 := ok_cas st_v st_base 0 st_none hb2
  refine c1 (word_any (((mk [st_v]).set st_none (-1)).cas st_v st_base 0 st_none) 13 st_v st_base 0 hb3 (by decide)) [16, 32, 18, 19, 20] [16, 32, 18, 19, 20, 40] 6 40 5 rfl rfl rfl rfl rfl rfl rfl rfl Try.func52 rfl rfl rfl rfl ⟨rfl, rfl, rfl, rfl, rfl, trivial⟩ rfl rfl ?_
  have hb4 := ok_word 13 st_v st_base 0 hb3
  refine s1 1 48 6 rfl rfl rfl rfl rfl rfl trivial ?_
  refine e1 56 rfl ?_
  refine keep [1] rfl ?_
  refine r1 ?_
  refine s1 7 56 1 rfl rfl rfl rfl rfl rfl trivial ?_
  refine sLit 1 (strsF [st_v]) 8 64 2 rfl rfl rfl rfl rfl rfl rfl rfl rfl (by intro i c hi hc; obtain rfl : i = 0 := (by omega); obtain rfl : c = 0 := (by omega); rfl) ?_
  refine c1 (tell_any ((((mk [st_v]).set st_none (-1)).cas st_v st_base 0 st_none).word 13 st_v st_base 0) st_v hb4 (by decide)) [16, 40, 18, 19, 20] [16, 40, 18, 19, 20, 72] 9 72 3 rfl rfl rfl rfl rfl rfl rfl rfl Try.func48 rfl rfl rfl rfl ⟨rfl, rfl, rfl, rfl, rfl, trivial⟩ rfl rfl ?_
  have hb5 := ok_tell st_v hb4
  refine c1 (ops_any (((((mk [st_v]).set st_none (-1)).cas st_v st_base 0 st_none).word 13 st_v st_base 0).tell st_v) hb5 (by decide)) [16, 72, 18, 19, 20] [16, 72, 18, 19, 20] 10 80 4 rfl rfl rfl rfl rfl rfl rfl rfl Try.func49 rfl rfl rfl rfl ⟨rfl, rfl, rfl, rfl, rfl, trivial⟩ rfl rfl ?_
  refine s1 0 88 5 rfl rfl rfl rfl rfl rfl trivial ?_
  refine e1 96 rfl ?_
  refine keep [0] rfl ?_
  refine W_ret ?_
  exact out1 0 (.sl 0 0 (fin B_Propose).length) (π := [72]) (hout := [some (.rows 42 5 (fin B_Propose).length (insF (fin B_Propose)))]) Try.results17 rfl rfl rfl rfl ⟨rfl, trivial⟩ ⟨rfl, rfl⟩

theorem ok_Propose : mayB (fin B_Propose) = true ∧ 0 < (fin B_Propose).length ∧ (fin B_Propose).length ≤ 1000 := by decide +kernel

theorem law_yes  : Spec Try.prog GV 4 [] [] (fun r _ => r = SV.b true) := by
  refine start 22 0 Try.func4 rfl rfl rfl rfl ?_
  refine r1 ?_
  refine s1 0 0 1 rfl rfl rfl rfl rfl rfl trivial ?_
  refine e1 8 rfl ?_
  refine keep [] rfl ?_
  refine r1 ?_
  refine c1 (yes_Words) [] [8] 3 8 1 rfl rfl rfl rfl rfl rfl rfl rfl Try.func16 rfl rfl rfl rfl trivial rfl rfl ?_
  refine s1 1 16 2 rfl rfl rfl rfl rfl rfl trivial ?_
  refine e1 24 rfl ?_
  refine keep [1] rfl ?_
  refine r1 ?_
  refine c1 (yes_Propose) [] [24] 4 24 1 rfl rfl rfl rfl rfl rfl rfl rfl Try.func17 rfl rfl rfl rfl trivial rfl rfl ?_
  refine s1 2 32 2 rfl rfl rfl rfl rfl rfl trivial ?_
  refine e1 40 rfl ?_
  refine keep [1, 2] rfl ?_
  refine freeze 2 24 (fin B_Propose).length rfl rfl (Nat.le_refl _) ?_
  have ho0 := ok_Propose
  refine r1 ?_
  refine s1 5 40 1 rfl rfl rfl rfl rfl rfl trivial ?_
  refine s1 6 48 2 rfl rfl rfl rfl rfl rfl (by first | trivial | omega | (simp only [List.length_map, List.length_append, List.length_cons, List.length_nil] at *; omega)) ?_
  refine s1 7 56 3 rfl rfl rfl rfl rfl rfl (by first | trivial | omega | (simp only [List.length_map, List.length_append, List.length_cons, List.length_nil] at *; omega)) ?_
  refine s1 8 64 4 rfl rfl rfl rfl rfl rfl trivial ?_
  refine ask 8 rfl (fun hg3_8 => ?_) (fun hg3_8 => ?_)
  · skip
    try simp only [decide_eq_true_eq, decide_eq_false_iff_not, Bool.not_eq_true', Bool.not_eq_false', beq_iff_eq, bne_iff_ne, beq_eq_false_iff_ne, Bool.and_eq_true, Bool.or_eq_true, Bool.and_eq_false_iff, Bool.or_eq_false_iff, ge_iff_le, gt_iff_lt, Int.not_lt, Int.not_le, ne_eq, Decidable.not_not, bne_eq_false_iff_eq] at hg3_8
    refine g1 3 true 8 9 5 rfl rfl rfl rfl rfl ?_
    refine s1 9 72 5 rfl rfl rfl rfl rfl rfl trivial ?_
    refine g1 3 true 8 10 6 rfl rfl rfl rfl rfl ?_
    refine s1 10 80 6 rfl rfl rfl rfl rfl rfl (by first | trivial | omega | (simp only [List.length_map, List.length_append, List.length_cons, List.length_nil] at *; omega)) ?_
    refine g1 3 true 8 11 7 rfl rfl rfl rfl rfl ?_
    refine s1 11 88 7 rfl rfl rfl rfl rfl rfl (by first | trivial | omega | (simp only [List.length_map, List.length_append, List.length_cons, List.length_nil] at *; omega)) ?_
    refine s1 12 96 8 rfl rfl rfl rfl rfl rfl trivial ?_
    refine s1 13 104 9 rfl rfl rfl rfl rfl rfl trivial ?_
    refine ask 13 rfl (fun hg3_13 => ?_) (fun hg3_13 => ?_)
    · skip
      try simp only [decide_eq_true_eq, decide_eq_false_iff_not, Bool.not_eq_true', Bool.not_eq_false', beq_iff_eq, bne_iff_ne, beq_eq_false_iff_ne, Bool.and_eq_true, Bool.or_eq_true, Bool.and_eq_false_iff, Bool.or_eq_false_iff, ge_iff_le, gt_iff_lt, Int.not_lt, Int.not_le, ne_eq, Decidable.not_not, bne_eq_false_iff_eq] at hg3_13
      refine g1 8 true 13 14 10 rfl rfl rfl rfl rfl ?_
      refine s1 14 112 10 rfl rfl rfl rfl rfl rfl trivial ?_
      refine g1 8 true 13 15 11 rfl rfl rfl rfl rfl ?_
      refine s1 15 120 11 rfl rfl rfl rfl rfl rfl (by first | trivial | omega | (simp only [List.length_map, List.length_append, List.length_cons, List.length_nil] at *; omega)) ?_
      refine g1 8 true 13 16 12 rfl rfl rfl rfl rfl ?_
      refine s1 16 128 12 rfl rfl rfl rfl rfl rfl (by first | trivial | omega | (simp only [List.length_map, List.length_append, List.length_cons, List.length_nil] at *; omega)) ?_
      refine s1 17 136 13 rfl rfl rfl rfl rfl rfl trivial ?_
      refine s1 18 144 14 rfl rfl rfl rfl rfl rfl trivial ?_
      refine ask 18 rfl (fun hg3_18 => ?_) (fun hg3_18 => ?_)
      · skip
        try simp only [decide_eq_true_eq, decide_eq_false_iff_not, Bool.not_eq_true', Bool.not_eq_false', beq_iff_eq, bne_iff_ne, beq_eq_false_iff_ne, Bool.and_eq_true, Bool.or_eq_true, Bool.and_eq_false_iff, Bool.or_eq_false_iff, ge_iff_le, gt_iff_lt, Int.not_lt, Int.not_le, ne_eq, Decidable.not_not, bne_eq_false_iff_eq] at hg3_18
        refine g1 13 true 18 19 15 rfl rfl rfl rfl rfl ?_
        refine s1 19 152 15 rfl rfl rfl rfl rfl rfl trivial ?_
        refine g1 13 true 18 20 16 rfl rfl rfl rfl rfl ?_
        refine c1 (codeMay_any (fin B_Propose) (Nat.le_trans (ok_Propose).2.2 (by decide))) [] [] 20 160 16 rfl rfl rfl rfl rfl rfl rfl rfl Try.func15 rfl rfl rfl rfl trivial rfl rfl ?_
        refine val 20 (SV.b true) rfl (by rw [(ok_Propose).1]) ?_
        refine s1 21 168 17 rfl rfl rfl rfl rfl rfl trivial ?_
        refine s1 0 176 18 rfl rfl rfl rfl rfl rfl trivial ?_
        refine e1 184 rfl ?_
        refine keep [0] rfl ?_
        refine W_ret ?_
        exact out1 0 (SV.b true) (π := []) (hout := []) Try.results4 rfl (by first | rfl | (simp; done) | (simp [*]; done)) rfl rfl trivial rfl
      · skip
        try simp only [decide_eq_true_eq, decide_eq_false_iff_not, Bool.not_eq_true', Bool.not_eq_false', beq_iff_eq, bne_iff_ne, beq_eq_false_iff_ne, Bool.and_eq_true, Bool.or_eq_true, Bool.and_eq_false_iff, Bool.or_eq_false_iff, ge_iff_le, gt_iff_lt, Int.not_lt, Int.not_le, ne_eq, Decidable.not_not, bne_eq_false_iff_eq] at hg3_18
        all_goals (exfalso; first | (simp at hg3_18; done) | (simp at hg3_18; omega) | (simp_all; omega) | omega)
    · skip
      try simp only [decide_eq_true_eq, decide_eq_false_iff_not, Bool.not_eq_true', Bool.not_eq_false', beq_iff_eq, bne_iff_ne, beq_eq_false_iff_ne, Bool.and_eq_true, Bool.or_eq_true, Bool.and_eq_false_iff, Bool.or_eq_false_iff, ge_iff_le, gt_iff_lt, Int.not_lt, Int.not_le, ne_eq, Decidable.not_not, bne_eq_false_iff_eq] at hg3_13
      all_goals (exfalso; first | (simp at hg3_13; done) | (simp at hg3_13; omega) | (simp_all; omega) | omega)
  · skip
    try simp only [decide_eq_true_eq, decide_eq_false_iff_not, Bool.not_eq_true', Bool.not_eq_false', beq_iff_eq, bne_iff_ne, beq_eq_false_iff_ne, Bool.and_eq_true, Bool.or_eq_true, Bool.and_eq_false_iff, Bool.or_eq_false_iff, ge_iff_le, gt_iff_lt, Int.not_lt, Int.not_le, ne_eq, Decidable.not_not, bne_eq_false_iff_eq] at hg3_8
    all_goals (exfalso; first | (simp at hg3_8; done) | (simp at hg3_8; omega) | (simp_all; omega) | omega)

theorem law_all : Spec Try.prog GV 4 [] [] (fun r _ => r = SV.b true) := law_yes

end Go.Proofs.Ytnmbdggdilbdaaa.Nice
