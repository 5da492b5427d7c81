/- The codes of package rwl, and the law RwlCodes. -/
import Derived.Test.YtnmbdggdilbdaaaCodeMay
namespace Go.Proofs.Ytnmbdggdilbdaaa.Nice
open Go
set_option linter.unusedVariables false
set_option linter.unusedSimpArgs false
set_option maxRecDepth 100000
set_option maxHeartbeats 4000000
abbrev st_again : ByteArray := ⟨#[97, 103, 97, 105, 110]⟩
abbrev st_base : ByteArray := ⟨#[98, 97, 115, 101]⟩
abbrev st_next : ByteArray := ⟨#[110, 101, 120, 116]⟩
abbrev st_now : ByteArray := ⟨#[110, 111, 119]⟩
abbrev st_one : ByteArray := ⟨#[111, 110, 101]⟩
abbrev st_writes : ByteArray := ⟨#[119, 114, 105, 116, 101, 115]⟩
abbrev st_zero : ByteArray := ⟨#[122, 101, 114, 111]⟩
theorem yes_Words  : Spec Try.prog GV 21 [] [] (fun r ho => r = .sl 0 0 1 ∧ ho = [none]) := by
  refine start 2 0 Try.func21 rfl rfl rfl rfl ?_
  refine r1 ?_
  refine s1 0 0 1 rfl rfl rfl rfl rfl rfl trivial ?_
  refine e1 8 rfl ?_
  refine keep [] rfl ?_
  refine r1 ?_
  refine s1 1 8 1 rfl rfl rfl rfl rfl rfl trivial ?_
  refine s1 0 16 2 rfl rfl rfl rfl rfl rfl trivial ?_
  refine e1 24 rfl ?_
  refine keep [0] rfl ?_
  refine W_ret ?_
  exact out1 0 (.sl 0 0 1) (π := [8]) (hout := [none]) Try.results21 rfl rfl rfl rfl trivial ⟨rfl, rfl⟩

def B_begun  : Bld := ((((mk []).set st_one 1).mark st_again).word 13 st_now st_base 0)
theorem give_begun  : Spec Try.prog GV 57 [] [] (fun r ho => r = .ptr 0 0 0 ∧ ho = [some (.cells 58 4 [.sl 1 0 (B_begun).ops.length, .map 2, .sl 3 0 (B_begun).gotos.length, .map 4]), some (.rows 42 5 (B_begun).ops.length (insF (B_begun).ops)), some (.map (mapE (B_begun).places)), some (.rows 62 2 (B_begun).gotos.length (gotoF (B_begun).gotos)), some (.map (mapE (B_begun).regs))]) := by
  refine start 5 0 Try.func57 rfl rfl rfl rfl ?_
  refine r1 ?_
  refine s1 0 0 1 rfl rfl rfl rfl rfl rfl trivial ?_
  refine e1 8 rfl ?_
  refine keep [] rfl ?_
  refine r1 ?_
  refine c1 (nil_any) [] [8, 9, 10, 11, 12] 1 8 1 rfl rfl rfl rfl rfl rfl rfl rfl Try.func45 rfl rfl rfl rfl trivial rfl rfl ?_
  have hb1 := ok_mk []
  refine c1 (set_any (mk []) st_one 1 hb1 (by decide)) [8, 9, 10, 11, 12] [8, 9, 10, 11, 12, 16] 2 16 2 rfl rfl rfl rfl rfl rfl rfl rfl Try.func46 rfl rfl rfl rfl ⟨rfl, rfl, rfl, rfl, rfl, trivial⟩ rfl rfl ?_
  have hb2 := ok_set st_one 1 hb1
  refine c1 (mark_any ((mk []).set st_one 1) st_again hb2 (by decide)) [8, 16, 10, 11, 12] [8, 16, 10, 11, 12] 3 24 3 rfl rfl rfl rfl rfl rfl rfl rfl Try.func53 rfl rfl rfl rfl ⟨rfl, rfl, rfl, rfl, rfl, trivial⟩ rfl rfl ?_
  have hb3 := ok_mark st_again hb2
  refine c1 (word_any (((mk []).set st_one 1).mark st_again) 13 st_now st_base 0 hb3 (by decide)) [8, 16, 10, 11, 12] [8, 16, 10, 11, 12, 32] 4 32 4 rfl rfl rfl rfl rfl rfl rfl rfl Try.func52 rfl rfl rfl rfl ⟨rfl, rfl, rfl, rfl, rfl, trivial⟩ rfl rfl ?_
  have hb4 := ok_word 13 st_now st_base 0 hb3
  refine s1 0 40 5 rfl rfl rfl rfl rfl rfl trivial ?_
  refine e1 48 rfl ?_
  refine keep [0] rfl ?_
  refine W_ret ?_
  exact out1 0 (.ptr 0 0 0) (π := [8, 32, 10, 11, 12]) (hout := [some (.cells 58 4 [.sl 1 0 (B_begun).ops.length, .map 2, .sl 3 0 (B_begun).gotos.length, .map 4]), some (.rows 42 5 (B_begun).ops.length (insF (B_begun).ops)), some (.map (mapE (B_begun).places)), some (.rows 62 2 (B_begun).gotos.length (gotoF (B_begun).gotos)), some (.map (mapE (B_begun).regs))]) Try.results57 rfl rfl rfl rfl ⟨rfl, rfl, rfl, rfl, rfl, trivial⟩ ⟨rfl, rfl⟩

theorem okb_begun  : (B_begun).ok 2 := ok_word 13 st_now st_base 0 (ok_mark st_again (ok_set st_one 1 (ok_mk [])))

def B_change (B : Bld) (k : Int) : Bld := (((B.doo k st_next st_now st_one).cas st_next st_base 0 st_now).iff 12 st_next st_again)
theorem turn_change (B : Bld) (k : Int) {n : Nat} (h : B.ok n) (hn : n ≤ 80000) : Spec Try.prog GV 56 [.ptr 0 0 0, SV.i k] [.cells 58 4 [.sl 1 0 B.ops.length, .map 2, .sl 3 0 B.gotos.length, .map 4], .rows 42 5 B.ops.length (insF B.ops), .map (mapE B.places), .rows 62 2 B.gotos.length (gotoF B.gotos), .map (mapE B.regs)] (fun r ho => r = .sl 6 0 (fin (B_change B k)).length ∧ ho = [some (.cells 58 4 [.sl 6 0 (B_change B k).ops.length, .map 2, .sl 5 0 (B_change B k).gotos.length, .map 4]), none, some (.map (mapE (B_change B k).places)), none, some (.map (mapE (B_change B k).regs)), some (.rows 62 2 (B_change B k).gotos.length (gotoF (B_change B k).gotos)), some (.rows 42 5 (fin (B_change B k)).length (insF (fin (B_change B k))))]) := by
  refine start 11 5 Try.func56 rfl rfl rfl rfl ?_
  refine r1 ?_
  refine s1 4 5 1 rfl rfl rfl rfl rfl rfl trivial ?_
  refine e1 13 rfl ?_
  refine keep [0, 1] rfl ?_
  refine r1 ?_
  refine s1 5 13 1 rfl rfl rfl rfl rfl rfl trivial ?_
  refine s1 6 21 2 rfl rfl rfl rfl rfl rfl trivial ?_
  refine c1 (doo_any B k st_next st_now st_one h (by omega)) [0, 1, 2, 3, 4] [0, 1, 2, 3, 4, 29] 7 29 3 rfl rfl rfl rfl rfl rfl rfl rfl Try.func54 rfl rfl rfl rfl ⟨rfl, rfl, rfl, rfl, rfl, trivial⟩ rfl rfl ?_
  have hb1 := ok_doo k st_next st_now st_one h
  refine c1 (cas_any (B.doo k st_next st_now st_one) st_next st_base 0 st_now hb1 (by omega)) [0, 29, 2, 3, 4] [0, 29, 2, 3, 4, 37] 8 37 4 rfl rfl rfl rfl rfl rfl rfl rfl Try.func47 rfl rfl rfl rfl ⟨rfl, rfl, rfl, rfl, rfl, trivial⟩ rfl rfl ?_
  have hb2 := ok_cas st_next st_base 0 st_now hb1
  refine c1 (iff_any ((B.doo k st_next st_now st_one).cas st_next st_base 0 st_now) 12 st_next st_again hb2 (by omega)) [0, 37, 2, 3, 4] [0, 37, 2, 3, 4, 45, 46] 9 45 5 rfl rfl rfl rfl rfl rfl rfl rfl Try.func55 rfl rfl rfl rfl ⟨rfl, rfl, rfl, rfl, rfl, trivial⟩ rfl rfl ?_
  have hb3 := ok_iff 12 st_next st_again hb2
  refine c1 (ops_any (((B.doo k st_next st_now st_one).cas st_next st_base 0 st_now).iff 12 st_next st_again) hb3 (by omega)) [0, 46, 2, 45, 4] [0, 46, 2, 45, 4] 10 53 6 rfl rfl rfl rfl rfl rfl rfl rfl Try.func49 rfl rfl rfl rfl ⟨rfl, rfl, rfl, rfl, rfl, trivial⟩ rfl rfl ?_
  refine s1 4 61 7 rfl rfl rfl rfl rfl rfl trivial ?_
  refine e1 69 rfl ?_
  refine keep [4] rfl ?_
  refine W_ret ?_
  exact out1 4 (.sl 6 0 (fin (B_change B k)).length) (π := [0, 1, 2, 3, 4, 45, 46]) (hout := [some (.cells 58 4 [.sl 6 0 (B_change B k).ops.length, .map 2, .sl 5 0 (B_change B k).gotos.length, .map 4]), none, some (.map (mapE (B_change B k).places)), none, some (.map (mapE (B_change B k).regs)), some (.rows 62 2 (B_change B k).gotos.length (gotoF (B_change B k).gotos)), some (.rows 42 5 (fin (B_change B k)).length (insF (fin (B_change B k))))]) Try.results56 rfl rfl rfl rfl ⟨rfl, rfl, rfl, rfl, rfl, trivial⟩ ⟨rfl, rfl⟩

theorem okt_change {B : Bld} (k : Int) {n : Nat} (h : B.ok n) : (B_change B k).ok (n + 3) := ok_iff 12 st_next st_again (ok_cas st_next st_base 0 st_now (ok_doo k st_next st_now st_one (h)))

def B_ReadIn : Bld := (B_change ((B_begun.doo 9 st_writes st_now st_base).iff 11 st_writes st_again) 3)
theorem yes_ReadIn  : Spec Try.prog GV 22 [] [] (fun r ho => r = .sl 0 0 (fin B_ReadIn).length ∧ ho = [some (.rows 42 5 (fin B_ReadIn).length (insF (fin B_ReadIn)))]) := by
  refine start 5 0 Try.func22 rfl rfl rfl rfl ?_
  refine r1 ?_
  refine s1 0 0 1 rfl rfl rfl rfl rfl rfl trivial ?_
  refine e1 8 rfl ?_
  refine keep [] rfl ?_
  refine r1 ?_
  refine c1 (give_begun ) [] [8, 9, 10, 11, 12] 1 8 1 rfl rfl rfl rfl rfl rfl rfl rfl Try.func57 rfl rfl rfl rfl trivial rfl rfl ?_
  have hb1 := okb_begun 
  refine c1 (doo_any B_begun 9 st_writes st_now st_base hb1 (by decide)) [8, 9, 10, 11, 12] [8, 9, 10, 11, 12, 16] 2 16 2 rfl rfl rfl rfl rfl rfl rfl rfl Try.func54 rfl rfl rfl rfl ⟨rfl, rfl, rfl, rfl, rfl, trivial⟩ rfl rfl ?_
  have hb2 := ok_doo 9 st_writes st_now st_base hb1
  refine c1 (iff_any (B_begun.doo 9 st_writes st_now st_base) 11 st_writes st_again hb2 (by decide)) [8, 16, 10, 11, 12] [8, 16, 10, 11, 12, 24, 25] 3 24 3 rfl rfl rfl rfl rfl rfl rfl rfl Try.func55 rfl rfl rfl rfl ⟨rfl, rfl, rfl, rfl, rfl, trivial⟩ rfl rfl ?_
  have hb3 := ok_iff 11 st_writes st_again hb2
  refine c1 (turn_change ((B_begun.doo 9 st_writes st_now st_base).iff 11 st_writes st_again) 3 hb3 (by decide)) [8, 25, 10, 24, 12] [8, 25, 10, 24, 12, 32, 33] 4 32 4 rfl rfl rfl rfl rfl rfl rfl rfl Try.func56 rfl rfl rfl rfl ⟨rfl, rfl, rfl, rfl, rfl, trivial⟩ rfl rfl ?_
  have hb4 := okt_change 3 hb3
  refine s1 0 40 5 rfl rfl rfl rfl rfl rfl trivial ?_
  refine e1 48 rfl ?_
  refine keep [0] rfl ?_
  refine W_ret ?_
  exact out1 0 (.sl 0 0 (fin B_ReadIn).length) (π := [33]) (hout := [some (.rows 42 5 (fin B_ReadIn).length (insF (fin B_ReadIn)))]) Try.results22 rfl rfl rfl rfl ⟨rfl, trivial⟩ ⟨rfl, rfl⟩

theorem ok_ReadIn : mayB (fin B_ReadIn) = true ∧ 0 < (fin B_ReadIn).length ∧ (fin B_ReadIn).length ≤ 1000 := by decide +kernel

def B_ReadOut : Bld := (B_change B_begun 4)
theorem yes_ReadOut  : Spec Try.prog GV 23 [] [] (fun r ho => r = .sl 0 0 (fin B_ReadOut).length ∧ ho = [some (.rows 42 5 (fin B_ReadOut).length (insF (fin B_ReadOut)))]) := by
  refine start 3 0 Try.func23 rfl rfl rfl rfl ?_
  refine r1 ?_
  refine s1 0 0 1 rfl rfl rfl rfl rfl rfl trivial ?_
  refine e1 8 rfl ?_
  refine keep [] rfl ?_
  refine r1 ?_
  refine c1 (give_begun ) [] [8, 9, 10, 11, 12] 1 8 1 rfl rfl rfl rfl rfl rfl rfl rfl Try.func57 rfl rfl rfl rfl trivial rfl rfl ?_
  have hb1 := okb_begun 
  refine c1 (turn_change B_begun 4 hb1 (by decide)) [8, 9, 10, 11, 12] [8, 9, 10, 11, 12, 16, 17] 2 16 2 rfl rfl rfl rfl rfl rfl rfl rfl Try.func56 rfl rfl rfl rfl ⟨rfl, rfl, rfl, rfl, rfl, trivial⟩ rfl rfl ?_
  have hb2 := okt_change 4 hb1
  refine s1 0 24 3 rfl rfl rfl rfl rfl rfl trivial ?_
  refine e1 32 rfl ?_
  refine keep [0] rfl ?_
  refine W_ret ?_
  exact out1 0 (.sl 0 0 (fin B_ReadOut).length) (π := [17]) (hout := [some (.rows 42 5 (fin B_ReadOut).length (insF (fin B_ReadOut)))]) Try.results23 rfl rfl rfl rfl ⟨rfl, trivial⟩ ⟨rfl, rfl⟩

theorem ok_ReadOut : mayB (fin B_ReadOut) = true ∧ 0 < (fin B_ReadOut).length ∧ (fin B_ReadOut).length ≤ 1000 := by decide +kernel

def B_WriteIn : Bld := (B_change (B_begun.iff 11 st_now st_again) 4)
theorem yes_WriteIn  : Spec Try.prog GV 24 [] [] (fun r ho => r = .sl 0 0 (fin B_WriteIn).length ∧ ho = [some (.rows 42 5 (fin B_WriteIn).length (insF (fin B_WriteIn)))]) := by
  refine start 4 0 Try.func24 rfl rfl rfl rfl ?_
  refine r1 ?_
  refine s1 0 0 1 rfl rfl rfl rfl rfl rfl trivial ?_
  refine e1 8 rfl ?_
  refine keep [] rfl ?_
  refine r1 ?_
  refine c1 (give_begun ) [] [8, 9, 10, 11, 12] 1 8 1 rfl rfl rfl rfl rfl rfl rfl rfl Try.func57 rfl rfl rfl rfl trivial rfl rfl ?_
  have hb1 := okb_begun 
  refine c1 (iff_any B_begun 11 st_now st_again hb1 (by decide)) [8, 9, 10, 11, 12] [8, 9, 10, 11, 12, 16, 17] 2 16 2 rfl rfl rfl rfl rfl rfl rfl rfl Try.func55 rfl rfl rfl rfl ⟨rfl, rfl, rfl, rfl, rfl, trivial⟩ rfl rfl ?_
  have hb2 := ok_iff 11 st_now st_again hb1
  refine c1 (turn_change (B_begun.iff 11 st_now st_again) 4 hb2 (by decide)) [8, 17, 10, 16, 12] [8, 17, 10, 16, 12, 24, 25] 3 24 3 rfl rfl rfl rfl rfl rfl rfl rfl Try.func56 rfl rfl rfl rfl ⟨rfl, rfl, rfl, rfl, rfl, trivial⟩ rfl rfl ?_
  have hb3 := okt_change 4 hb2
  refine s1 0 32 4 rfl rfl rfl rfl rfl rfl trivial ?_
  refine e1 40 rfl ?_
  refine keep [0] rfl ?_
  refine W_ret ?_
  exact out1 0 (.sl 0 0 (fin B_WriteIn).length) (π := [25]) (hout := [some (.rows 42 5 (fin B_WriteIn).length (insF (fin B_WriteIn)))]) Try.results24 rfl rfl rfl rfl ⟨rfl, trivial⟩ ⟨rfl, rfl⟩

theorem ok_WriteIn : mayB (fin B_WriteIn) = true ∧ 0 < (fin B_WriteIn).length ∧ (fin B_WriteIn).length ≤ 1000 := by decide +kernel

def B_WriteOut : Bld := ((mk []).word 14 st_zero st_base 0)
theorem yes_WriteOut  : Spec Try.prog GV 25 [] [] (fun r ho => r = .sl 0 0 (fin B_WriteOut).length ∧ ho = [some (.rows 42 5 (fin B_WriteOut).length (insF (fin B_WriteOut)))]) := by
  refine start 4 0 Try.func25 rfl rfl rfl rfl ?_
  refine r1 ?_
  refine s1 0 0 1 rfl rfl rfl rfl rfl rfl trivial ?_
  refine e1 8 rfl ?_
  refine keep [] rfl ?_
  refine r1 ?_
  refine c1 (nil_any) [] [8, 9, 10, 11, 12] 1 8 1 rfl rfl rfl rfl rfl rfl rfl rfl Try.func45 rfl rfl rfl rfl trivial rfl rfl ?_
  have hb1 := ok_mk []
  refine c1 (word_any (mk []) 14 st_zero st_base 0 hb1 (by decide)) [8, 9, 10, 11, 12] [8, 9, 10, 11, 12, 16] 2 16 2 rfl rfl rfl rfl rfl rfl rfl rfl Try.func52 rfl rfl rfl rfl ⟨rfl, rfl, rfl, rfl, rfl, trivial⟩ rfl rfl ?_
  have hb2 := ok_word 14 st_zero st_base 0 hb1
  refine c1 (ops_any ((mk []).word 14 st_zero st_base 0) hb2 (by decide)) [8, 16, 10, 11, 12] [8, 16, 10, 11, 12] 3 24 3 rfl rfl rfl rfl rfl rfl rfl rfl Try.func49 rfl rfl rfl rfl ⟨rfl, rfl, rfl, rfl, rfl, trivial⟩ rfl rfl ?_
  refine s1 0 32 4 rfl rfl rfl rfl rfl rfl trivial ?_
  refine e1 40 rfl ?_
  refine keep [0] rfl ?_
  refine W_ret ?_
  exact out1 0 (.sl 0 0 (fin B_WriteOut).length) (π := [16]) (hout := [some (.rows 42 5 (fin B_WriteOut).length (insF (fin B_WriteOut)))]) Try.results25 rfl rfl rfl rfl ⟨rfl, trivial⟩ ⟨rfl, rfl⟩

theorem ok_WriteOut : mayB (fin B_WriteOut) = true ∧ 0 < (fin B_WriteOut).length ∧ (fin B_WriteOut).length ≤ 1000 := by decide +kernel

theorem law_yes  : Spec Try.prog GV 6 [] [] (fun r _ => r = SV.b true) := by
  refine start 55 0 Try.func6 rfl rfl rfl rfl ?_
  refine r1 ?_
  refine s1 0 0 1 rfl rfl rfl rfl rfl rfl trivial ?_
  refine e1 8 rfl ?_
  refine keep [] rfl ?_
  refine r1 ?_
  refine c1 (yes_Words) [] [8] 6 8 1 rfl rfl rfl rfl rfl rfl rfl rfl Try.func21 rfl rfl rfl rfl trivial rfl rfl ?_
  refine s1 1 16 2 rfl rfl rfl rfl rfl rfl trivial ?_
  refine e1 24 rfl ?_
  refine keep [1] rfl ?_
  refine r1 ?_
  refine c1 (yes_ReadIn) [] [24] 7 24 1 rfl rfl rfl rfl rfl rfl rfl rfl Try.func22 rfl rfl rfl rfl trivial rfl rfl ?_
  refine s1 2 32 2 rfl rfl rfl rfl rfl rfl trivial ?_
  refine e1 40 rfl ?_
  refine keep [1, 2] rfl ?_
  refine r1 ?_
  refine c1 (yes_ReadOut) [] [40] 8 40 1 rfl rfl rfl rfl rfl rfl rfl rfl Try.func23 rfl rfl rfl rfl trivial rfl rfl ?_
  refine s1 3 48 2 rfl rfl rfl rfl rfl rfl trivial ?_
  refine e1 56 rfl ?_
  refine keep [1, 2, 3] rfl ?_
  refine r1 ?_
  refine c1 (yes_WriteIn) [] [56] 9 56 1 rfl rfl rfl rfl rfl rfl rfl rfl Try.func24 rfl rfl rfl rfl trivial rfl rfl ?_
  refine s1 4 64 2 rfl rfl rfl rfl rfl rfl trivial ?_
  refine e1 72 rfl ?_
  refine keep [1, 2, 3, 4] rfl ?_
  refine r1 ?_
  refine c1 (yes_WriteOut) [] [72] 10 72 1 rfl rfl rfl rfl rfl rfl rfl rfl Try.func25 rfl rfl rfl rfl trivial rfl rfl ?_
  refine s1 5 80 2 rfl rfl rfl rfl rfl rfl trivial ?_
  refine e1 88 rfl ?_
  refine keep [1, 2, 3, 4, 5] rfl ?_
  refine freeze 2 24 (fin B_ReadIn).length rfl rfl (Nat.le_refl _) ?_
  refine freeze 3 40 (fin B_ReadOut).length rfl rfl (Nat.le_refl _) ?_
  refine freeze 4 56 (fin B_WriteIn).length rfl rfl (Nat.le_refl _) ?_
  refine freeze 5 72 (fin B_WriteOut).length rfl rfl (Nat.le_refl _) ?_
  have ho0 := ok_ReadIn
  have ho1 := ok_ReadOut
  have ho2 := ok_WriteIn
  have ho3 := ok_WriteOut
  refine r1 ?_
  refine s1 11 88 1 rfl rfl rfl rfl rfl rfl trivial ?_
  refine s1 12 96 2 rfl rfl rfl rfl rfl rfl (by first | trivial | omega | (simp only [List.length_map, List.length_append, List.length_cons, List.length_nil] at *; omega)) ?_
  refine s1 13 104 3 rfl rfl rfl rfl rfl rfl (by first | trivial | omega | (simp only [List.length_map, List.length_append, List.length_cons, List.length_nil] at *; omega)) ?_
  refine s1 14 112 4 rfl rfl rfl rfl rfl rfl trivial ?_
  refine ask 14 rfl (fun hg6_14 => ?_) (fun hg6_14 => ?_)
  · skip
    try simp only [decide_eq_true_eq, decide_eq_false_iff_not, Bool.not_eq_true', Bool.not_eq_false', beq_iff_eq, bne_iff_ne, beq_eq_false_iff_ne, Bool.and_eq_true, Bool.or_eq_true, Bool.and_eq_false_iff, Bool.or_eq_false_iff, ge_iff_le, gt_iff_lt, Int.not_lt, Int.not_le, ne_eq, Decidable.not_not, bne_eq_false_iff_eq] at hg6_14
    refine g1 3 true 14 15 5 rfl rfl rfl rfl rfl ?_
    refine s1 15 120 5 rfl rfl rfl rfl rfl rfl trivial ?_
    refine g1 3 true 14 16 6 rfl rfl rfl rfl rfl ?_
    refine s1 16 128 6 rfl rfl rfl rfl rfl rfl (by first | trivial | omega | (simp only [List.length_map, List.length_append, List.length_cons, List.length_nil] at *; omega)) ?_
    refine g1 3 true 14 17 7 rfl rfl rfl rfl rfl ?_
    refine s1 17 136 7 rfl rfl rfl rfl rfl rfl (by first | trivial | omega | (simp only [List.length_map, List.length_append, List.length_cons, List.length_nil] at *; omega)) ?_
    refine s1 18 144 8 rfl rfl rfl rfl rfl rfl trivial ?_
    refine s1 19 152 9 rfl rfl rfl rfl rfl rfl trivial ?_
    refine ask 19 rfl (fun hg6_19 => ?_) (fun hg6_19 => ?_)
    · skip
      try simp only [decide_eq_true_eq, decide_eq_false_iff_not, Bool.not_eq_true', Bool.not_eq_false', beq_iff_eq, bne_iff_ne, beq_eq_false_iff_ne, Bool.and_eq_true, Bool.or_eq_true, Bool.and_eq_false_iff, Bool.or_eq_false_iff, ge_iff_le, gt_iff_lt, Int.not_lt, Int.not_le, ne_eq, Decidable.not_not, bne_eq_false_iff_eq] at hg6_19
      refine g1 8 true 19 20 10 rfl rfl rfl rfl rfl ?_
      refine s1 20 160 10 rfl rfl rfl rfl rfl rfl trivial ?_
      refine g1 8 true 19 21 11 rfl rfl rfl rfl rfl ?_
      refine s1 21 168 11 rfl rfl rfl rfl rfl rfl (by first | trivial | omega | (simp only [List.length_map, List.length_append, List.length_cons, List.length_nil] at *; omega)) ?_
      refine g1 8 true 19 22 12 rfl rfl rfl rfl rfl ?_
      refine s1 22 176 12 rfl rfl rfl rfl rfl rfl (by first | trivial | omega | (simp only [List.length_map, List.length_append, List.length_cons, List.length_nil] at *; omega)) ?_
      refine s1 23 184 13 rfl rfl rfl rfl rfl rfl trivial ?_
      refine s1 24 192 14 rfl rfl rfl rfl rfl rfl trivial ?_
      refine ask 24 rfl (fun hg6_24 => ?_) (fun hg6_24 => ?_)
      · skip
        try simp only [decide_eq_true_eq, decide_eq_false_iff_not, Bool.not_eq_true', Bool.not_eq_false', beq_iff_eq, bne_iff_ne, beq_eq_false_iff_ne, Bool.and_eq_true, Bool.or_eq_true, Bool.and_eq_false_iff, Bool.or_eq_false_iff, ge_iff_le, gt_iff_lt, Int.not_lt, Int.not_le, ne_eq, Decidable.not_not, bne_eq_false_iff_eq] at hg6_24
        refine g1 13 true 24 25 15 rfl rfl rfl rfl rfl ?_
        refine s1 25 200 15 rfl rfl rfl rfl rfl rfl trivial ?_
        refine g1 13 true 24 26 16 rfl rfl rfl rfl rfl ?_
        refine s1 26 208 16 rfl rfl rfl rfl rfl rfl (by first | trivial | omega | (simp only [List.length_map, List.length_append, List.length_cons, List.length_nil] at *; omega)) ?_
        refine g1 13 true 24 27 17 rfl rfl rfl rfl rfl ?_
        refine s1 27 216 17 rfl rfl rfl rfl rfl rfl (by first | trivial | omega | (simp only [List.length_map, List.length_append, List.length_cons, List.length_nil] at *; omega)) ?_
        refine s1 28 224 18 rfl rfl rfl rfl rfl rfl trivial ?_
        refine s1 29 232 19 rfl rfl rfl rfl rfl rfl trivial ?_
        refine ask 29 rfl (fun hg6_29 => ?_) (fun hg6_29 => ?_)
        · skip
          try simp only [decide_eq_true_eq, decide_eq_false_iff_not, Bool.not_eq_true', Bool.not_eq_false', beq_iff_eq, bne_iff_ne, beq_eq_false_iff_ne, Bool.and_eq_true, Bool.or_eq_true, Bool.and_eq_false_iff, Bool.or_eq_false_iff, ge_iff_le, gt_iff_lt, Int.not_lt, Int.not_le, ne_eq, Decidable.not_not, bne_eq_false_iff_eq] at hg6_29
          refine g1 18 true 29 30 20 rfl rfl rfl rfl rfl ?_
          refine s1 30 240 20 rfl rfl rfl rfl rfl rfl trivial ?_
          refine g1 18 true 29 31 21 rfl rfl rfl rfl rfl ?_
          refine s1 31 248 21 rfl rfl rfl rfl rfl rfl (by first | trivial | omega | (simp only [List.length_map, List.length_append, List.length_cons, List.length_nil] at *; omega)) ?_
          refine g1 18 true 29 32 22 rfl rfl rfl rfl rfl ?_
          refine s1 32 256 22 rfl rfl rfl rfl rfl rfl (by first | trivial | omega | (simp only [List.length_map, List.length_append, List.length_cons, List.length_nil] at *; omega)) ?_
          refine s1 33 264 23 rfl rfl rfl rfl rfl rfl trivial ?_
          refine s1 34 272 24 rfl rfl rfl rfl rfl rfl trivial ?_
          refine ask 34 rfl (fun hg6_34 => ?_) (fun hg6_34 => ?_)
          · skip
            try simp only [decide_eq_true_eq, decide_eq_false_iff_not, Bool.not_eq_true', Bool.not_eq_false', beq_iff_eq, bne_iff_ne, beq_eq_false_iff_ne, Bool.and_eq_true, Bool.or_eq_true, Bool.and_eq_false_iff, Bool.or_eq_false_iff, ge_iff_le, gt_iff_lt, Int.not_lt, Int.not_le, ne_eq, Decidable.not_not, bne_eq_false_iff_eq] at hg6_34
            refine g1 23 true 34 35 25 rfl rfl rfl rfl rfl ?_
            refine s1 35 280 25 rfl rfl rfl rfl rfl rfl trivial ?_
            refine g1 23 true 34 36 26 rfl rfl rfl rfl rfl ?_
            refine s1 36 288 26 rfl rfl rfl rfl rfl rfl (by first | trivial | omega | (simp only [List.length_map, List.length_append, List.length_cons, List.length_nil] at *; omega)) ?_
            refine g1 23 true 34 37 27 rfl rfl rfl rfl rfl ?_
            refine s1 37 296 27 rfl rfl rfl rfl rfl rfl (by first | trivial | omega | (simp only [List.length_map, List.length_append, List.length_cons, List.length_nil] at *; omega)) ?_
            refine s1 38 304 28 rfl rfl rfl rfl rfl rfl trivial ?_
            refine s1 39 312 29 rfl rfl rfl rfl rfl rfl trivial ?_
            refine ask 39 rfl (fun hg6_39 => ?_) (fun hg6_39 => ?_)
            · skip
              try simp only [decide_eq_true_eq, decide_eq_false_iff_not, Bool.not_eq_true', Bool.not_eq_false', beq_iff_eq, bne_iff_ne, beq_eq_false_iff_ne, Bool.and_eq_true, Bool.or_eq_true, Bool.and_eq_false_iff, Bool.or_eq_false_iff, ge_iff_le, gt_iff_lt, Int.not_lt, Int.not_le, ne_eq, Decidable.not_not, bne_eq_false_iff_eq] at hg6_39
              refine g1 28 true 39 40 30 rfl rfl rfl rfl rfl ?_
              refine s1 40 320 30 rfl rfl rfl rfl rfl rfl trivial ?_
              refine g1 28 true 39 41 31 rfl rfl rfl rfl rfl ?_
              refine c1 (codeMay_any (fin B_ReadIn) (Nat.le_trans (ok_ReadIn).2.2 (by decide))) [] [] 41 328 31 rfl rfl rfl rfl rfl rfl rfl rfl Try.func15 rfl rfl rfl rfl trivial rfl rfl ?_
              refine val 41 (SV.b true) rfl (by rw [(ok_ReadIn).1]) ?_
              refine s1 42 336 32 rfl rfl rfl rfl rfl rfl trivial ?_
              refine s1 43 344 33 rfl rfl rfl rfl rfl rfl trivial ?_
              refine ask 43 rfl (fun hg6_43 => ?_) (fun hg6_43 => ?_)
              · skip
                try simp only [decide_eq_true_eq, decide_eq_false_iff_not, Bool.not_eq_true', Bool.not_eq_false', beq_iff_eq, bne_iff_ne, beq_eq_false_iff_ne, Bool.and_eq_true, Bool.or_eq_true, Bool.and_eq_false_iff, Bool.or_eq_false_iff, ge_iff_le, gt_iff_lt, Int.not_lt, Int.not_le, ne_eq, Decidable.not_not, bne_eq_false_iff_eq] at hg6_43
                refine g1 32 true 43 44 34 rfl rfl rfl rfl rfl ?_
                refine s1 44 352 34 rfl rfl rfl rfl rfl rfl trivial ?_
                refine g1 32 true 43 45 35 rfl rfl rfl rfl rfl ?_
                refine c1 (codeMay_any (fin B_ReadOut) (Nat.le_trans (ok_ReadOut).2.2 (by decide))) [] [] 45 360 35 rfl rfl rfl rfl rfl rfl rfl rfl Try.func15 rfl rfl rfl rfl trivial rfl rfl ?_
                refine val 45 (SV.b true) rfl (by rw [(ok_ReadOut).1]) ?_
                refine s1 46 368 36 rfl rfl rfl rfl rfl rfl trivial ?_
                refine s1 47 376 37 rfl rfl rfl rfl rfl rfl trivial ?_
                refine ask 47 rfl (fun hg6_47 => ?_) (fun hg6_47 => ?_)
                · skip
                  try simp only [decide_eq_true_eq, decide_eq_false_iff_not, Bool.not_eq_true', Bool.not_eq_false', beq_iff_eq, bne_iff_ne, beq_eq_false_iff_ne, Bool.and_eq_true, Bool.or_eq_true, Bool.and_eq_false_iff, Bool.or_eq_false_iff, ge_iff_le, gt_iff_lt, Int.not_lt, Int.not_le, ne_eq, Decidable.not_not, bne_eq_false_iff_eq] at hg6_47
                  refine g1 36 true 47 48 38 rfl rfl rfl rfl rfl ?_
                  refine s1 48 384 38 rfl rfl rfl rfl rfl rfl trivial ?_
                  refine g1 36 true 47 49 39 rfl rfl rfl rfl rfl ?_
                  refine c1 (codeMay_any (fin B_WriteIn) (Nat.le_trans (ok_WriteIn).2.2 (by decide))) [] [] 49 392 39 rfl rfl rfl rfl rfl rfl rfl rfl Try.func15 rfl rfl rfl rfl trivial rfl rfl ?_
                  refine val 49 (SV.b true) rfl (by rw [(ok_WriteIn).1]) ?_
                  refine s1 50 400 40 rfl rfl rfl rfl rfl rfl trivial ?_
                  refine s1 51 408 41 rfl rfl rfl rfl rfl rfl trivial ?_
                  refine ask 51 rfl (fun hg6_51 => ?_) (fun hg6_51 => ?_)
                  · skip
                    try simp only [decide_eq_true_eq, decide_eq_false_iff_not, Bool.not_eq_true', Bool.not_eq_false', beq_iff_eq, bne_iff_ne, beq_eq_false_iff_ne, Bool.and_eq_true, Bool.or_eq_true, Bool.and_eq_false_iff, Bool.or_eq_false_iff, ge_iff_le, gt_iff_lt, Int.not_lt, Int.not_le, ne_eq, Decidable.not_not, bne_eq_false_iff_eq] at hg6_51
                    refine g1 40 true 51 52 42 rfl rfl rfl rfl rfl ?_
                    refine s1 52 416 42 rfl rfl rfl rfl rfl rfl trivial ?_
                    refine g1 40 true 51 53 43 rfl rfl rfl rfl rfl ?_
                    refine c1 (codeMay_any (fin B_WriteOut) (Nat.le_trans (ok_WriteOut).2.2 (by decide))) [] [] 53 424 43 rfl rfl rfl rfl rfl rfl rfl rfl Try.func15 rfl rfl rfl rfl trivial rfl rfl ?_
                    refine val 53 (SV.b true) rfl (by rw [(ok_WriteOut).1]) ?_
                    refine s1 54 432 44 rfl rfl rfl rfl rfl rfl trivial ?_
                    refine s1 0 440 45 rfl rfl rfl rfl rfl rfl trivial ?_
                    refine e1 448 rfl ?_
                    refine keep [0] rfl ?_
                    refine W_ret ?_
                    exact out1 0 (SV.b true) (π := []) (hout := []) Try.results6 rfl (by first | rfl | (simp; done) | (simp [*]; done)) rfl rfl trivial rfl
                  · skip
                    try simp only [decide_eq_true_eq, decide_eq_false_iff_not, Bool.not_eq_true', Bool.not_eq_false', beq_iff_eq, bne_iff_ne, beq_eq_false_iff_ne, Bool.and_eq_true, Bool.or_eq_true, Bool.and_eq_false_iff, Bool.or_eq_false_iff, ge_iff_le, gt_iff_lt, Int.not_lt, Int.not_le, ne_eq, Decidable.not_not, bne_eq_false_iff_eq] at hg6_51
                    all_goals (exfalso; first | (simp at hg6_51; done) | (simp at hg6_51; omega) | (simp_all; omega) | omega)
                · skip
                  try simp only [decide_eq_true_eq, decide_eq_false_iff_not, Bool.not_eq_true', Bool.not_eq_false', beq_iff_eq, bne_iff_ne, beq_eq_false_iff_ne, Bool.and_eq_true, Bool.or_eq_true, Bool.and_eq_false_iff, Bool.or_eq_false_iff, ge_iff_le, gt_iff_lt, Int.not_lt, Int.not_le, ne_eq, Decidable.not_not, bne_eq_false_iff_eq] at hg6_47
                  all_goals (exfalso; first | (simp at hg6_47; done) | (simp at hg6_47; omega) | (simp_all; omega) | omega)
              · skip
                try simp only [decide_eq_true_eq, decide_eq_false_iff_not, Bool.not_eq_true', Bool.not_eq_false', beq_iff_eq, bne_iff_ne, beq_eq_false_iff_ne, Bool.and_eq_true, Bool.or_eq_true, Bool.and_eq_false_iff, Bool.or_eq_false_iff, ge_iff_le, gt_iff_lt, Int.not_lt, Int.not_le, ne_eq, Decidable.not_not, bne_eq_false_iff_eq] at hg6_43
                all_goals (exfalso; first | (simp at hg6_43; done) | (simp at hg6_43; omega) | (simp_all; omega) | omega)
            · skip
              try simp only [decide_eq_true_eq, decide_eq_false_iff_not, Bool.not_eq_true', Bool.not_eq_false', beq_iff_eq, bne_iff_ne, beq_eq_false_iff_ne, Bool.and_eq_true, Bool.or_eq_true, Bool.and_eq_false_iff, Bool.or_eq_false_iff, ge_iff_le, gt_iff_lt, Int.not_lt, Int.not_le, ne_eq, Decidable.not_not, bne_eq_false_iff_eq] at hg6_39
              all_goals (exfalso; first | (simp at hg6_39; done) | (simp at hg6_39; omega) | (simp_all; omega) | omega)
          · skip
            try simp only [decide_eq_true_eq, decide_eq_false_iff_not, Bool.not_eq_true', Bool.not_eq_false', beq_iff_eq, bne_iff_ne, beq_eq_false_iff_ne, Bool.and_eq_true, Bool.or_eq_true, Bool.and_eq_false_iff, Bool.or_eq_false_iff, ge_iff_le, gt_iff_lt, Int.not_lt, Int.not_le, ne_eq, Decidable.not_not, bne_eq_false_iff_eq] at hg6_34
            all_goals (exfalso; first | (simp at hg6_34; done) | (simp at hg6_34; omega) | (simp_all; omega) | omega)
        · skip
          try simp only [decide_eq_true_eq, decide_eq_false_iff_not, Bool.not_eq_true', Bool.not_eq_false', beq_iff_eq, bne_iff_ne, beq_eq_false_iff_ne, Bool.and_eq_true, Bool.or_eq_true, Bool.and_eq_false_iff, Bool.or_eq_false_iff, ge_iff_le, gt_iff_lt, Int.not_lt, Int.not_le, ne_eq, Decidable.not_not, bne_eq_false_iff_eq] at hg6_29
          all_goals (exfalso; first | (simp at hg6_29; done) | (simp at hg6_29; omega) | (simp_all; omega) | omega)
      · skip
        try simp only [decide_eq_true_eq, decide_eq_false_iff_not, Bool.not_eq_true', Bool.not_eq_false', beq_iff_eq, bne_iff_ne, beq_eq_false_iff_ne, Bool.and_eq_true, Bool.or_eq_true, Bool.and_eq_false_iff, Bool.or_eq_false_iff, ge_iff_le, gt_iff_lt, Int.not_lt, Int.not_le, ne_eq, Decidable.not_not, bne_eq_false_iff_eq] at hg6_24
        all_goals (exfalso; first | (simp at hg6_24; done) | (simp at hg6_24; omega) | (simp_all; omega) | omega)
    · skip
      try simp only [decide_eq_true_eq, decide_eq_false_iff_not, Bool.not_eq_true', Bool.not_eq_false', beq_iff_eq, bne_iff_ne, beq_eq_false_iff_ne, Bool.and_eq_true, Bool.or_eq_true, Bool.and_eq_false_iff, Bool.or_eq_false_iff, ge_iff_le, gt_iff_lt, Int.not_lt, Int.not_le, ne_eq, Decidable.not_not, bne_eq_false_iff_eq] at hg6_19
      all_goals (exfalso; first | (simp at hg6_19; done) | (simp at hg6_19; omega) | (simp_all; omega) | omega)
  · skip
    try simp only [decide_eq_true_eq, decide_eq_false_iff_not, Bool.not_eq_true', Bool.not_eq_false', beq_iff_eq, bne_iff_ne, beq_eq_false_iff_ne, Bool.and_eq_true, Bool.or_eq_true, Bool.and_eq_false_iff, Bool.or_eq_false_iff, ge_iff_le, gt_iff_lt, Int.not_lt, Int.not_le, ne_eq, Decidable.not_not, bne_eq_false_iff_eq] at hg6_14
    all_goals (exfalso; first | (simp at hg6_14; done) | (simp at hg6_14; omega) | (simp_all; omega) | omega)

theorem law_all : Spec Try.prog GV 6 [] [] (fun r _ => r = SV.b true) := law_yes

end Go.Proofs.Ytnmbdggdilbdaaa.Nice
