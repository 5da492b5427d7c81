/- The codes of package count, and the law CountCodes. -/
import Derived.Test.YtnmbdggdilbdaaaCodeMay
namespace Go.Proofs.Ytnmbdggdilbdaaa.Nice
open Go
set_option linter.unusedVariables false
set_option linter.unusedSimpArgs false
set_option maxRecDepth 100000
set_option maxHeartbeats 4000000
abbrev st_again : ByteArray := ⟨#[97, 103, 97, 105, 110]⟩
abbrev st_base : ByteArray := ⟨#[98, 97, 115, 101]⟩
abbrev st_by : ByteArray := ⟨#[98, 121]⟩
abbrev st_new : ByteArray := ⟨#[110, 101, 119]⟩
abbrev st_now : ByteArray := ⟨#[110, 111, 119]⟩
abbrev st_old : ByteArray := ⟨#[111, 108, 100]⟩
theorem yes_Words  : Spec Try.prog GV 18 [] [] (fun r ho => r = .sl 0 0 1 ∧ ho = [none]) := by
  refine start 2 0 Try.func18 rfl rfl rfl rfl ?_
  refine r1 ?_
  refine s1 0 0 1 rfl rfl rfl rfl rfl rfl trivial ?_
  refine e1 8 rfl ?_
  refine keep [] rfl ?_
  refine r1 ?_
  refine s1 1 8 1 rfl rfl rfl rfl rfl rfl trivial ?_
  refine s1 0 16 2 rfl rfl rfl rfl rfl rfl trivial ?_
  refine e1 24 rfl ?_
  refine keep [0] rfl ?_
  refine W_ret ?_
  exact out1 0 (.sl 0 0 1) (π := [8]) (hout := [none]) Try.results18 rfl rfl rfl rfl trivial ⟨rfl, rfl⟩

def B_Add : Bld := (((((((mk [st_by]).mark st_again).word 13 st_old st_base 0).doo 3 st_new st_old st_by).cas st_new st_base 0 st_old).iff 12 st_new st_again).tell st_old)
theorem yes_Add  : Spec Try.prog GV 19 [] [] (fun r ho => r = .sl 0 0 (fin B_Add).length ∧ ho = [some (.rows 42 5 (fin B_Add).length (insF (fin B_Add)))]) := by
  refine start 13 0 Try.func19 rfl rfl rfl rfl ?_
  refine r1 ?_
  refine s1 0 0 1 rfl rfl rfl rfl rfl rfl trivial ?_
  refine e1 8 rfl ?_
  refine keep [] rfl ?_
  refine r1 ?_
  refine sLit 1 (strsF [st_by]) 2 8 1 rfl rfl rfl rfl rfl rfl rfl rfl rfl (by intro i c hi hc; obtain rfl : i = 0 := (by omega); obtain rfl : c = 0 := (by omega); rfl) ?_
  refine c1 (new_any [st_by] (by decide)) [] [16, 17, 18, 19, 20] 3 16 2 rfl rfl rfl rfl rfl rfl rfl rfl Try.func45 rfl rfl rfl rfl trivial rfl rfl ?_
  have hb1 := ok_mk [st_by]
  refine c1 (mark_any (mk [st_by]) st_again hb1 (by decide)) [16, 17, 18, 19, 20] [16, 17, 18, 19, 20] 4 24 3 rfl rfl rfl rfl rfl rfl rfl rfl Try.func53 rfl rfl rfl rfl ⟨rfl, rfl, rfl, rfl, rfl, trivial⟩ rfl rfl ?_
  have hb2 := ok_mark st_again hb1
  refine c1 (word_any ((mk [st_by]).mark st_again) 13 st_old st_base 0 hb2 (by decide)) [16, 17, 18, 19, 20] [16, 17, 18, 19, 20, 32] 5 32 4 rfl rfl rfl rfl rfl rfl rfl rfl Try.func52 rfl rfl rfl rfl ⟨rfl, rfl, rfl, rfl, rfl, trivial⟩ rfl rfl ?_
  have hb3 := ok_word 13 st_old st_base 0 hb2
  refine c1 (doo_any (((mk [st_by]).mark st_again).word 13 st_old st_base 0) 3 st_new st_old st_by hb3 (by decide)) [16, 32, 18, 19, 20] [16, 32, 18, 19, 20, 40] 6 40 5 rfl rfl rfl rfl rfl rfl rfl rfl Try.func54 rfl rfl rfl rfl ⟨rfl, rfl, rfl, rfl, rfl, trivial⟩ rfl rfl ?_
  have hb4 := ok_doo 3 st_new st_old st_by hb3
  refine s1 1 48 6 rfl rfl rfl rfl rfl rfl trivial ?_
  refine e1 56 rfl ?_
  refine keep [1] rfl ?_
  refine r1 ?_
  refine s1 7 56 1 rfl rfl rfl rfl rfl rfl trivial ?_
  refine c1 (cas_any ((((mk [st_by]).mark st_again).word 13 st_old st_base 0).doo 3 st_new st_old st_by) st_new st_base 0 st_old hb4 (by decide)) [16, 40, 18, 19, 20] [16, 40, 18, 19, 20, 64] 8 64 2 rfl rfl rfl rfl rfl rfl rfl rfl Try.func47 rfl rfl rfl rfl ⟨rfl, rfl, rfl, rfl, rfl, trivial⟩ rfl rfl ?_
  have hb5 := ok_cas st_new st_base 0 st_old hb4
  refine c1 (iff_any (((((mk [st_by]).mark st_again).word 13 st_old st_base 0).doo 3 st_new st_old st_by).cas st_new st_base 0 st_old) 12 st_new st_again hb5 (by decide)) [16, 64, 18, 19, 20] [16, 64, 18, 19, 20, 72, 73] 9 72 3 rfl rfl rfl rfl rfl rfl rfl rfl Try.func55 rfl rfl rfl rfl ⟨rfl, rfl, rfl, rfl, rfl, trivial⟩ rfl rfl ?_
  have hb6 := ok_iff 12 st_new st_again hb5
  refine sLit 1 (strsF [st_old]) 10 80 4 rfl rfl rfl rfl rfl rfl rfl rfl rfl (by intro i c hi hc; obtain rfl : i = 0 := (by omega); obtain rfl : c = 0 := (by omega); rfl) ?_
  refine c1 (tell_any ((((((mk [st_by]).mark st_again).word 13 st_old st_base 0).doo 3 st_new st_old st_by).cas st_new st_base 0 st_old).iff 12 st_new st_again) st_old hb6 (by decide)) [16, 73, 18, 72, 20] [16, 73, 18, 72, 20, 88] 11 88 5 rfl rfl rfl rfl rfl rfl rfl rfl Try.func48 rfl rfl rfl rfl ⟨rfl, rfl, rfl, rfl, rfl, trivial⟩ rfl rfl ?_
  have hb7 := ok_tell st_old hb6
  refine c1 (ops_any (((((((mk [st_by]).mark st_again).word 13 st_old st_base 0).doo 3 st_new st_old st_by).cas st_new st_base 0 st_old).iff 12 st_new st_again).tell st_old) hb7 (by decide)) [16, 88, 18, 72, 20] [16, 88, 18, 72, 20] 12 96 6 rfl rfl rfl rfl rfl rfl rfl rfl Try.func49 rfl rfl rfl rfl ⟨rfl, rfl, rfl, rfl, rfl, trivial⟩ rfl rfl ?_
  refine s1 0 104 7 rfl rfl rfl rfl rfl rfl trivial ?_
  refine e1 112 rfl ?_
  refine keep [0] rfl ?_
  refine W_ret ?_
  exact out1 0 (.sl 0 0 (fin B_Add).length) (π := [88]) (hout := [some (.rows 42 5 (fin B_Add).length (insF (fin B_Add)))]) Try.results19 rfl rfl rfl rfl ⟨rfl, trivial⟩ ⟨rfl, rfl⟩

theorem ok_Add : mayB (fin B_Add) = true ∧ 0 < (fin B_Add).length ∧ (fin B_Add).length ≤ 1000 := by decide +kernel

def B_Get : Bld := (((mk []).word 13 st_now st_base 0).tell st_now)
theorem yes_Get  : Spec Try.prog GV 20 [] [] (fun r ho => r = .sl 0 0 (fin B_Get).length ∧ ho = [some (.rows 42 5 (fin B_Get).length (insF (fin B_Get)))]) := by
  refine start 6 0 Try.func20 rfl rfl rfl rfl ?_
  refine r1 ?_
  refine s1 0 0 1 rfl rfl rfl rfl rfl rfl trivial ?_
  refine e1 8 rfl ?_
  refine keep [] rfl ?_
  refine r1 ?_
  refine c1 (nil_any) [] [8, 9, 10, 11, 12] 1 8 1 rfl rfl rfl rfl rfl rfl rfl rfl Try.func45 rfl rfl rfl rfl trivial rfl rfl ?_
  have hb1 := ok_mk []
  refine c1 (word_any (mk []) 13 st_now st_base 0 hb1 (by decide)) [8, 9, 10, 11, 12] [8, 9, 10, 11, 12, 16] 2 16 2 rfl rfl rfl rfl rfl rfl rfl rfl Try.func52 rfl rfl rfl rfl ⟨rfl, rfl, rfl, rfl, rfl, trivial⟩ rfl rfl ?_
  have hb2 := ok_word 13 st_now st_base 0 hb1
  refine sLit 1 (strsF [st_now]) 3 24 3 rfl rfl rfl rfl rfl rfl rfl rfl rfl (by intro i c hi hc; obtain rfl : i = 0 := (by omega); obtain rfl : c = 0 := (by omega); rfl) ?_
  refine c1 (tell_any ((mk []).word 13 st_now st_base 0) st_now hb2 (by decide)) [8, 16, 10, 11, 12] [8, 16, 10, 11, 12, 32] 4 32 4 rfl rfl rfl rfl rfl rfl rfl rfl Try.func48 rfl rfl rfl rfl ⟨rfl, rfl, rfl, rfl, rfl, trivial⟩ rfl rfl ?_
  have hb3 := ok_tell st_now hb2
  refine c1 (ops_any (((mk []).word 13 st_now st_base 0).tell st_now) hb3 (by decide)) [8, 32, 10, 11, 12] [8, 32, 10, 11, 12] 5 40 5 rfl rfl rfl rfl rfl rfl rfl rfl Try.func49 rfl rfl rfl rfl ⟨rfl, rfl, rfl, rfl, rfl, trivial⟩ rfl rfl ?_
  refine s1 0 48 6 rfl rfl rfl rfl rfl rfl trivial ?_
  refine e1 56 rfl ?_
  refine keep [0] rfl ?_
  refine W_ret ?_
  exact out1 0 (.sl 0 0 (fin B_Get).length) (π := [32]) (hout := [some (.rows 42 5 (fin B_Get).length (insF (fin B_Get)))]) Try.results20 rfl rfl rfl rfl ⟨rfl, trivial⟩ ⟨rfl, rfl⟩

theorem ok_Get : mayB (fin B_Get) = true ∧ 0 < (fin B_Get).length ∧ (fin B_Get).length ≤ 1000 := by decide +kernel

theorem law_yes  : Spec Try.prog GV 5 [] [] (fun r _ => r = SV.b true) := by
  refine start 33 0 Try.func5 rfl rfl rfl rfl ?_
  refine r1 ?_
  refine s1 0 0 1 rfl rfl rfl rfl rfl rfl trivial ?_
  refine e1 8 rfl ?_
  refine keep [] rfl ?_
  refine r1 ?_
  refine c1 (yes_Words) [] [8] 4 8 1 rfl rfl rfl rfl rfl rfl rfl rfl Try.func18 rfl rfl rfl rfl trivial rfl rfl ?_
  refine s1 1 16 2 rfl rfl rfl rfl rfl rfl trivial ?_
  refine e1 24 rfl ?_
  refine keep [1] rfl ?_
  refine r1 ?_
  refine c1 (yes_Add) [] [24] 5 24 1 rfl rfl rfl rfl rfl rfl rfl rfl Try.func19 rfl rfl rfl rfl trivial rfl rfl ?_
  refine s1 2 32 2 rfl rfl rfl rfl rfl rfl trivial ?_
  refine e1 40 rfl ?_
  refine keep [1, 2] rfl ?_
  refine r1 ?_
  refine c1 (yes_Get) [] [40] 6 40 1 rfl rfl rfl rfl rfl rfl rfl rfl Try.func20 rfl rfl rfl rfl trivial rfl rfl ?_
  refine s1 3 48 2 rfl rfl rfl rfl rfl rfl trivial ?_
  refine e1 56 rfl ?_
  refine keep [1, 2, 3] rfl ?_
  refine freeze 2 24 (fin B_Add).length rfl rfl (Nat.le_refl _) ?_
  refine freeze 3 40 (fin B_Get).length rfl rfl (Nat.le_refl _) ?_
  have ho0 := ok_Add
  have ho1 := ok_Get
  refine r1 ?_
  refine s1 7 56 1 rfl rfl rfl rfl rfl rfl trivial ?_
  refine s1 8 64 2 rfl rfl rfl rfl rfl rfl (by first | trivial | omega | (simp only [List.length_map, List.length_append, List.length_cons, List.length_nil] at *; omega)) ?_
  refine s1 9 72 3 rfl rfl rfl rfl rfl rfl (by first | trivial | omega | (simp only [List.length_map, List.length_append, List.length_cons, List.length_nil] at *; omega)) ?_
  refine s1 10 80 4 rfl rfl rfl rfl rfl rfl trivial ?_
  refine ask 10 rfl (fun hg4_10 => ?_) (fun hg4_10 => ?_)
  · skip
    try simp only [decide_eq_true_eq, decide_eq_false_iff_not, Bool.not_eq_true', Bool.not_eq_false', beq_iff_eq, bne_iff_ne, beq_eq_false_iff_ne, Bool.and_eq_true, Bool.or_eq_true, Bool.and_eq_false_iff, Bool.or_eq_false_iff, ge_iff_le, gt_iff_lt, Int.not_lt, Int.not_le, ne_eq, Decidable.not_not, bne_eq_false_iff_eq] at hg4_10
    refine g1 3 true 10 11 5 rfl rfl rfl rfl rfl ?_
    refine s1 11 88 5 rfl rfl rfl rfl rfl rfl trivial ?_
    refine g1 3 true 10 12 6 rfl rfl rfl rfl rfl ?_
    refine s1 12 96 6 rfl rfl rfl rfl rfl rfl (by first | trivial | omega | (simp only [List.length_map, List.length_append, List.length_cons, List.length_nil] at *; omega)) ?_
    refine g1 3 true 10 13 7 rfl rfl rfl rfl rfl ?_
    refine s1 13 104 7 rfl rfl rfl rfl rfl rfl (by first | trivial | omega | (simp only [List.length_map, List.length_append, List.length_cons, List.length_nil] at *; omega)) ?_
    refine s1 14 112 8 rfl rfl rfl rfl rfl rfl trivial ?_
    refine s1 15 120 9 rfl rfl rfl rfl rfl rfl trivial ?_
    refine ask 15 rfl (fun hg4_15 => ?_) (fun hg4_15 => ?_)
    · skip
      try simp only [decide_eq_true_eq, decide_eq_false_iff_not, Bool.not_eq_true', Bool.not_eq_false', beq_iff_eq, bne_iff_ne, beq_eq_false_iff_ne, Bool.and_eq_true, Bool.or_eq_true, Bool.and_eq_false_iff, Bool.or_eq_false_iff, ge_iff_le, gt_iff_lt, Int.not_lt, Int.not_le, ne_eq, Decidable.not_not, bne_eq_false_iff_eq] at hg4_15
      refine g1 8 true 15 16 10 rfl rfl rfl rfl rfl ?_
      refine s1 16 128 10 rfl rfl rfl rfl rfl rfl trivial ?_
      refine g1 8 true 15 17 11 rfl rfl rfl rfl rfl ?_
      refine s1 17 136 11 rfl rfl rfl rfl rfl rfl (by first | trivial | omega | (simp only [List.length_map, List.length_append, List.length_cons, List.length_nil] at *; omega)) ?_
      refine g1 8 true 15 18 12 rfl rfl rfl rfl rfl ?_
      refine s1 18 144 12 rfl rfl rfl rfl rfl rfl (by first | trivial | omega | (simp only [List.length_map, List.length_append, List.length_cons, List.length_nil] at *; omega)) ?_
      refine s1 19 152 13 rfl rfl rfl rfl rfl rfl trivial ?_
      refine s1 20 160 14 rfl rfl rfl rfl rfl rfl trivial ?_
      refine ask 20 rfl (fun hg4_20 => ?_) (fun hg4_20 => ?_)
      · skip
        try simp only [decide_eq_true_eq, decide_eq_false_iff_not, Bool.not_eq_true', Bool.not_eq_false', beq_iff_eq, bne_iff_ne, beq_eq_false_iff_ne, Bool.and_eq_true, Bool.or_eq_true, Bool.and_eq_false_iff, Bool.or_eq_false_iff, ge_iff_le, gt_iff_lt, Int.not_lt, Int.not_le, ne_eq, Decidable.not_not, bne_eq_false_iff_eq] at hg4_20
        refine g1 13 true 20 21 15 rfl rfl rfl rfl rfl ?_
        refine s1 21 168 15 rfl rfl rfl rfl rfl rfl trivial ?_
        refine g1 13 true 20 22 16 rfl rfl rfl rfl rfl ?_
        refine s1 22 176 16 rfl rfl rfl rfl rfl rfl (by first | trivial | omega | (simp only [List.length_map, List.length_append, List.length_cons, List.length_nil] at *; omega)) ?_
        refine g1 13 true 20 23 17 rfl rfl rfl rfl rfl ?_
        refine s1 23 184 17 rfl rfl rfl rfl rfl rfl (by first | trivial | omega | (simp only [List.length_map, List.length_append, List.length_cons, List.length_nil] at *; omega)) ?_
        refine s1 24 192 18 rfl rfl rfl rfl rfl rfl trivial ?_
        refine s1 25 200 19 rfl rfl rfl rfl rfl rfl trivial ?_
        refine ask 25 rfl (fun hg4_25 => ?_) (fun hg4_25 => ?_)
        · skip
          try simp only [decide_eq_true_eq, decide_eq_false_iff_not, Bool.not_eq_true', Bool.not_eq_false', beq_iff_eq, bne_iff_ne, beq_eq_false_iff_ne, Bool.and_eq_true, Bool.or_eq_true, Bool.and_eq_false_iff, Bool.or_eq_false_iff, ge_iff_le, gt_iff_lt, Int.not_lt, Int.not_le, ne_eq, Decidable.not_not, bne_eq_false_iff_eq] at hg4_25
          refine g1 18 true 25 26 20 rfl rfl rfl rfl rfl ?_
          refine s1 26 208 20 rfl rfl rfl rfl rfl rfl trivial ?_
          refine g1 18 true 25 27 21 rfl rfl rfl rfl rfl ?_
          refine c1 (codeMay_any (fin B_Add) (Nat.le_trans (ok_Add).2.2 (by decide))) [] [] 27 216 21 rfl rfl rfl rfl rfl rfl rfl rfl Try.func15 rfl rfl rfl rfl trivial rfl rfl ?_
          refine val 27 (SV.b true) rfl (by rw [(ok_Add).1]) ?_
          refine s1 28 224 22 rfl rfl rfl rfl rfl rfl trivial ?_
          refine s1 29 232 23 rfl rfl rfl rfl rfl rfl trivial ?_
          refine ask 29 rfl (fun hg4_29 => ?_) (fun hg4_29 => ?_)
          · skip
            try simp only [decide_eq_true_eq, decide_eq_false_iff_not, Bool.not_eq_true', Bool.not_eq_false', beq_iff_eq, bne_iff_ne, beq_eq_false_iff_ne, Bool.and_eq_true, Bool.or_eq_true, Bool.and_eq_false_iff, Bool.or_eq_false_iff, ge_iff_le, gt_iff_lt, Int.not_lt, Int.not_le, ne_eq, Decidable.not_not, bne_eq_false_iff_eq] at hg4_29
            refine g1 22 true 29 30 24 rfl rfl rfl rfl rfl ?_
            refine s1 30 240 24 rfl rfl rfl rfl rfl rfl trivial ?_
            refine g1 22 true 29 31 25 rfl rfl rfl rfl rfl ?_
            refine c1 (codeMay_any (fin B_Get) (Nat.le_trans (ok_Get).2.2 (by decide))) [] [] 31 248 25 rfl rfl rfl rfl rfl rfl rfl rfl Try.func15 rfl rfl rfl rfl trivial rfl rfl ?_
            refine val 31 (SV.b true) rfl (by rw [(ok_Get).1]) ?_
            refine s1 32 256 26 rfl rfl rfl rfl rfl rfl trivial ?_
            refine s1 0 264 27 rfl rfl rfl rfl rfl rfl trivial ?_
            refine e1 272 rfl ?_
            refine keep [0] rfl ?_
            refine W_ret ?_
            exact out1 0 (SV.b true) (π := []) (hout := []) Try.results5 rfl (by first | rfl | (simp; done) | (simp [*]; done)) rfl rfl trivial rfl
          · skip
            try simp only [decide_eq_true_eq, decide_eq_false_iff_not, Bool.not_eq_true', Bool.not_eq_false', beq_iff_eq, bne_iff_ne, beq_eq_false_iff_ne, Bool.and_eq_true, Bool.or_eq_true, Bool.and_eq_false_iff, Bool.or_eq_false_iff, ge_iff_le, gt_iff_lt, Int.not_lt, Int.not_le, ne_eq, Decidable.not_not, bne_eq_false_iff_eq] at hg4_29
            all_goals (exfalso; first | (simp at hg4_29; done) | (simp at hg4_29; omega) | (simp_all; omega) | omega)
        · skip
          try simp only [decide_eq_true_eq, decide_eq_false_iff_not, Bool.not_eq_true', Bool.not_eq_false', beq_iff_eq, bne_iff_ne, beq_eq_false_iff_ne, Bool.and_eq_true, Bool.or_eq_true, Bool.and_eq_false_iff, Bool.or_eq_false_iff, ge_iff_le, gt_iff_lt, Int.not_lt, Int.not_le, ne_eq, Decidable.not_not, bne_eq_false_iff_eq] at hg4_25
          all_goals (exfalso; first | (simp at hg4_25; done) | (simp at hg4_25; omega) | (simp_all; omega) | omega)
      · skip
        try simp only [decide_eq_true_eq, decide_eq_false_iff_not, Bool.not_eq_true', Bool.not_eq_false', beq_iff_eq, bne_iff_ne, beq_eq_false_iff_ne, Bool.and_eq_true, Bool.or_eq_true, Bool.and_eq_false_iff, Bool.or_eq_false_iff, ge_iff_le, gt_iff_lt, Int.not_lt, Int.not_le, ne_eq, Decidable.not_not, bne_eq_false_iff_eq] at hg4_20
        all_goals (exfalso; first | (simp at hg4_20; done) | (simp at hg4_20; omega) | (simp_all; omega) | omega)
    · skip
      try simp only [decide_eq_true_eq, decide_eq_false_iff_not, Bool.not_eq_true', Bool.not_eq_false', beq_iff_eq, bne_iff_ne, beq_eq_false_iff_ne, Bool.and_eq_true, Bool.or_eq_true, Bool.and_eq_false_iff, Bool.or_eq_false_iff, ge_iff_le, gt_iff_lt, Int.not_lt, Int.not_le, ne_eq, Decidable.not_not, bne_eq_false_iff_eq] at hg4_15
      all_goals (exfalso; first | (simp at hg4_15; done) | (simp at hg4_15; omega) | (simp_all; omega) | omega)
  · skip
    try simp only [decide_eq_true_eq, decide_eq_false_iff_not, Bool.not_eq_true', Bool.not_eq_false', beq_iff_eq, bne_iff_ne, beq_eq_false_iff_ne, Bool.and_eq_true, Bool.or_eq_true, Bool.and_eq_false_iff, Bool.or_eq_false_iff, ge_iff_le, gt_iff_lt, Int.not_lt, Int.not_le, ne_eq, Decidable.not_not, bne_eq_false_iff_eq] at hg4_10
    all_goals (exfalso; first | (simp at hg4_10; done) | (simp at hg4_10; omega) | (simp_all; omega) | omega)

theorem law_all : Spec Try.prog GV 5 [] [] (fun r _ => r = SV.b true) := law_yes

end Go.Proofs.Ytnmbdggdilbdaaa.Nice
