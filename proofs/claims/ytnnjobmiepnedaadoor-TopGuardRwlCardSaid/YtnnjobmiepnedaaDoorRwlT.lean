/- The codes of package rwl. -/
import Derived.Test.YtnnjobmiepnedaaDoorAsmT
namespace Go.Proofs.YtnnjobmiepnedaaDoor.Nice
open Go
set_option linter.unusedVariables false
set_option linter.unusedSimpArgs false
set_option maxRecDepth 100000
set_option maxHeartbeats 4000000
abbrev st_again : ByteArray := ⟨#[97, 103, 97, 105, 110]⟩
abbrev st_base : ByteArray := ⟨#[98, 97, 115, 101]⟩
abbrev st_next : ByteArray := ⟨#[110, 101, 120, 116]⟩
abbrev st_now : ByteArray := ⟨#[110, 111, 119]⟩
abbrev st_one : ByteArray := ⟨#[111, 110, 101]⟩
abbrev st_zero : ByteArray := ⟨#[122, 101, 114, 111]⟩
theorem yes_Words  : Spec Tryd.prog GV 9 [] [] (fun r ho => r = .sl 0 0 1 ∧ ho = [none]) := by
  refine start 2 0 Tryd.func9 rfl rfl rfl rfl ?_
  refine r1 ?_
  refine s1 0 0 1 rfl rfl rfl rfl rfl rfl trivial ?_
  refine e1 8 rfl ?_
  refine keep [] rfl ?_
  refine r1 ?_
  refine s1 1 8 1 rfl rfl rfl rfl rfl rfl trivial ?_
  refine s1 0 16 2 rfl rfl rfl rfl rfl rfl trivial ?_
  refine e1 24 rfl ?_
  refine keep [0] rfl ?_
  refine W_ret ?_
  exact out1 0 (.sl 0 0 1) (π := [8]) (hout := [none]) Tryd.results9 rfl rfl rfl rfl trivial ⟨rfl, rfl⟩

def B_begun  : Bld := ((((mk []).set st_one 1).mark st_again).word 13 st_now st_base 0)
theorem give_begun  : Spec Tryd.prog GV 32 [] [] (fun r ho => r = .ptr 0 0 0 ∧ ho = [some (.cells 114 4 [.sl 1 0 (B_begun).ops.length, .map 2, .sl 3 0 (B_begun).gotos.length, .map 4]), some (.rows 64 5 (B_begun).ops.length (insF (B_begun).ops)), some (.map (mapE (B_begun).places)), some (.rows 116 2 (B_begun).gotos.length (gotoF (B_begun).gotos)), some (.map (mapE (B_begun).regs))]) := by
  refine start 5 0 Tryd.func32 rfl rfl rfl rfl ?_
  refine r1 ?_
  refine s1 0 0 1 rfl rfl rfl rfl rfl rfl trivial ?_
  refine e1 8 rfl ?_
  refine keep [] rfl ?_
  refine r1 ?_
  refine c1 (nil_any) [] [8, 9, 10, 11, 12] 1 8 1 rfl rfl rfl rfl rfl rfl rfl rfl Tryd.func34 rfl rfl rfl rfl trivial rfl rfl ?_
  have hb1 := ok_mk []
  refine c1 (set_any (mk []) st_one 1 hb1 (by decide)) [8, 9, 10, 11, 12] [8, 9, 10, 11, 12, 16] 2 16 2 rfl rfl rfl rfl rfl rfl rfl rfl Tryd.func54 rfl rfl rfl rfl ⟨rfl, rfl, rfl, rfl, rfl, trivial⟩ rfl rfl ?_
  have hb2 := ok_set st_one 1 hb1
  refine c1 (mark_any ((mk []).set st_one 1) st_again hb2 (by decide)) [8, 16, 10, 11, 12] [8, 16, 10, 11, 12] 3 24 3 rfl rfl rfl rfl rfl rfl rfl rfl Tryd.func37 rfl rfl rfl rfl ⟨rfl, rfl, rfl, rfl, rfl, trivial⟩ rfl rfl ?_
  have hb3 := ok_mark st_again hb2
  refine c1 (asmword_any (((mk []).set st_one 1).mark st_again) 13 st_now st_base 0 hb3 (by decide)) [8, 16, 10, 11, 12] [8, 16, 10, 11, 12, 32] 4 32 4 rfl rfl rfl rfl rfl rfl rfl rfl Tryd.func35 rfl rfl rfl rfl ⟨rfl, rfl, rfl, rfl, rfl, trivial⟩ rfl rfl ?_
  have hb4 := ok_word 13 st_now st_base 0 hb3
  refine s1 0 40 5 rfl rfl rfl rfl rfl rfl trivial ?_
  refine e1 48 rfl ?_
  refine keep [0] rfl ?_
  refine W_ret ?_
  exact out1 0 (.ptr 0 0 0) (π := [8, 32, 10, 11, 12]) (hout := [some (.cells 114 4 [.sl 1 0 (B_begun).ops.length, .map 2, .sl 3 0 (B_begun).gotos.length, .map 4]), some (.rows 64 5 (B_begun).ops.length (insF (B_begun).ops)), some (.map (mapE (B_begun).places)), some (.rows 116 2 (B_begun).gotos.length (gotoF (B_begun).gotos)), some (.map (mapE (B_begun).regs))]) Tryd.results32 rfl rfl rfl rfl ⟨rfl, rfl, rfl, rfl, rfl, trivial⟩ ⟨rfl, rfl⟩

theorem okb_begun  : (B_begun).ok 2 := ok_word 13 st_now st_base 0 (ok_mark st_again (ok_set st_one 1 (ok_mk [])))

def B_change (B : Bld) (k : Int) : Bld := (((B.doo k st_next st_now st_one).cas st_next st_base 0 st_now).iff 12 st_next st_again)
theorem turn_change (B : Bld) (k : Int)  {n : Nat} (h : B.ok n) (hn : n ≤ 80000) : Spec Tryd.prog GV 31 [.ptr 0 0 0, SV.i k] [.cells 114 4 [.sl 1 0 B.ops.length, .map 2, .sl 3 0 B.gotos.length, .map 4], .rows 64 5 B.ops.length (insF B.ops), .map (mapE B.places), .rows 116 2 B.gotos.length (gotoF B.gotos), .map (mapE B.regs)] (fun r ho => r = .sl 6 0 (fin (B_change B k)).length ∧ ho = [some (.cells 114 4 [.sl 6 0 (B_change B k).ops.length, .map 2, .sl 5 0 (B_change B k).gotos.length, .map 4]), none, some (.map (mapE (B_change B k).places)), none, some (.map (mapE (B_change B k).regs)), some (.rows 116 2 (B_change B k).gotos.length (gotoF (B_change B k).gotos)), some (.rows 64 5 (fin (B_change B k)).length (insF (fin (B_change B k))))]) := by
  refine start 11 5 Tryd.func31 rfl rfl rfl rfl ?_
  refine r1 ?_
  refine s1 4 5 1 rfl rfl rfl rfl rfl rfl trivial ?_
  refine e1 13 rfl ?_
  refine keep [0, 1] rfl ?_
  refine r1 ?_
  refine s1 5 13 1 rfl rfl rfl rfl rfl rfl trivial ?_
  refine s1 6 21 2 rfl rfl rfl rfl rfl rfl trivial ?_
  refine c1 (doo_any B k st_next st_now st_one h (by omega)) [0, 1, 2, 3, 4] [0, 1, 2, 3, 4, 29] 7 29 3 rfl rfl rfl rfl rfl rfl rfl rfl Tryd.func38 rfl rfl rfl rfl ⟨rfl, rfl, rfl, rfl, rfl, trivial⟩ rfl rfl ?_
  have hb1 := ok_doo k st_next st_now st_one h
  refine c1 (cas_any (B.doo k st_next st_now st_one) st_next st_base 0 st_now hb1 (by omega)) [0, 29, 2, 3, 4] [0, 29, 2, 3, 4, 37] 8 37 4 rfl rfl rfl rfl rfl rfl rfl rfl Tryd.func39 rfl rfl rfl rfl ⟨rfl, rfl, rfl, rfl, rfl, trivial⟩ rfl rfl ?_
  have hb2 := ok_cas st_next st_base 0 st_now hb1
  refine c1 (iff_any ((B.doo k st_next st_now st_one).cas st_next st_base 0 st_now) 12 st_next st_again hb2 (by omega)) [0, 37, 2, 3, 4] [0, 37, 2, 3, 4, 45, 46] 9 45 5 rfl rfl rfl rfl rfl rfl rfl rfl Tryd.func33 rfl rfl rfl rfl ⟨rfl, rfl, rfl, rfl, rfl, trivial⟩ rfl rfl ?_
  have hb3 := ok_iff 12 st_next st_again hb2
  refine c1 (ops_any (((B.doo k st_next st_now st_one).cas st_next st_base 0 st_now).iff 12 st_next st_again) hb3 (by omega)) [0, 46, 2, 45, 4] [0, 46, 2, 45, 4] 10 53 6 rfl rfl rfl rfl rfl rfl rfl rfl Tryd.func36 rfl rfl rfl rfl ⟨rfl, rfl, rfl, rfl, rfl, trivial⟩ rfl rfl ?_
  refine s1 4 61 7 rfl rfl rfl rfl rfl rfl trivial ?_
  refine e1 69 rfl ?_
  refine keep [4] rfl ?_
  refine W_ret ?_
  exact out1 4 (.sl 6 0 (fin (B_change B k)).length) (π := [0, 1, 2, 3, 4, 45, 46]) (hout := [some (.cells 114 4 [.sl 6 0 (B_change B k).ops.length, .map 2, .sl 5 0 (B_change B k).gotos.length, .map 4]), none, some (.map (mapE (B_change B k).places)), none, some (.map (mapE (B_change B k).regs)), some (.rows 116 2 (B_change B k).gotos.length (gotoF (B_change B k).gotos)), some (.rows 64 5 (fin (B_change B k)).length (insF (fin (B_change B k))))]) Tryd.results31 rfl rfl rfl rfl ⟨rfl, rfl, rfl, rfl, rfl, trivial⟩ ⟨rfl, rfl⟩

theorem okt_change {B : Bld} (k : Int) {n : Nat} (h : B.ok n) : (B_change B k).ok (n + 3) := ok_iff 12 st_next st_again (ok_cas st_next st_base 0 st_now (ok_doo k st_next st_now st_one (h)))

def B_WriteIn : Bld := (B_change (B_begun.iff 11 st_now st_again) 4)
theorem yes_WriteIn  : Spec Tryd.prog GV 10 [] [] (fun r ho => r = .sl 0 0 (fin B_WriteIn).length ∧ ho = [some (.rows 64 5 (fin B_WriteIn).length (insF (fin B_WriteIn)))]) := by
  refine start 4 0 Tryd.func10 rfl rfl rfl rfl ?_
  refine r1 ?_
  refine s1 0 0 1 rfl rfl rfl rfl rfl rfl trivial ?_
  refine e1 8 rfl ?_
  refine keep [] rfl ?_
  refine r1 ?_
  refine c1 (give_begun ) [] [8, 9, 10, 11, 12] 1 8 1 rfl rfl rfl rfl rfl rfl rfl rfl Tryd.func32 rfl rfl rfl rfl trivial rfl rfl ?_
  have hb1 := okb_begun 
  refine c1 (iff_any B_begun 11 st_now st_again hb1 (by decide)) [8, 9, 10, 11, 12] [8, 9, 10, 11, 12, 16, 17] 2 16 2 rfl rfl rfl rfl rfl rfl rfl rfl Tryd.func33 rfl rfl rfl rfl ⟨rfl, rfl, rfl, rfl, rfl, trivial⟩ rfl rfl ?_
  have hb2 := ok_iff 11 st_now st_again hb1
  refine c1 (turn_change (B_begun.iff 11 st_now st_again) 4  hb2 (by decide)) [8, 17, 10, 16, 12] [8, 17, 10, 16, 12, 24, 25] 3 24 3 rfl rfl rfl rfl rfl rfl rfl rfl Tryd.func31 rfl rfl rfl rfl ⟨rfl, rfl, rfl, rfl, rfl, trivial⟩ rfl rfl ?_
  have hb3 := okt_change 4 hb2
  refine s1 0 32 4 rfl rfl rfl rfl rfl rfl trivial ?_
  refine e1 40 rfl ?_
  refine keep [0] rfl ?_
  refine W_ret ?_
  exact out1 0 (.sl 0 0 (fin B_WriteIn).length) (π := [25]) (hout := [some (.rows 64 5 (fin B_WriteIn).length (insF (fin B_WriteIn)))]) Tryd.results10 rfl rfl rfl rfl ⟨rfl, trivial⟩ ⟨rfl, rfl⟩

theorem ok_WriteIn : mayB (fin B_WriteIn) = true ∧ 0 < (fin B_WriteIn).length ∧ (fin B_WriteIn).length ≤ 1000 := by decide +kernel

def B_WriteOut : Bld := ((mk []).word 14 st_zero st_base 0)
theorem yes_WriteOut  : Spec Tryd.prog GV 11 [] [] (fun r ho => r = .sl 0 0 (fin B_WriteOut).length ∧ ho = [some (.rows 64 5 (fin B_WriteOut).length (insF (fin B_WriteOut)))]) := by
  refine start 4 0 Tryd.func11 rfl rfl rfl rfl ?_
  refine r1 ?_
  refine s1 0 0 1 rfl rfl rfl rfl rfl rfl trivial ?_
  refine e1 8 rfl ?_
  refine keep [] rfl ?_
  refine r1 ?_
  refine c1 (nil_any) [] [8, 9, 10, 11, 12] 1 8 1 rfl rfl rfl rfl rfl rfl rfl rfl Tryd.func34 rfl rfl rfl rfl trivial rfl rfl ?_
  have hb1 := ok_mk []
  refine c1 (asmword_any (mk []) 14 st_zero st_base 0 hb1 (by decide)) [8, 9, 10, 11, 12] [8, 9, 10, 11, 12, 16] 2 16 2 rfl rfl rfl rfl rfl rfl rfl rfl Tryd.func35 rfl rfl rfl rfl ⟨rfl, rfl, rfl, rfl, rfl, trivial⟩ rfl rfl ?_
  have hb2 := ok_word 14 st_zero st_base 0 hb1
  refine c1 (ops_any ((mk []).word 14 st_zero st_base 0) hb2 (by decide)) [8, 16, 10, 11, 12] [8, 16, 10, 11, 12] 3 24 3 rfl rfl rfl rfl rfl rfl rfl rfl Tryd.func36 rfl rfl rfl rfl ⟨rfl, rfl, rfl, rfl, rfl, trivial⟩ rfl rfl ?_
  refine s1 0 32 4 rfl rfl rfl rfl rfl rfl trivial ?_
  refine e1 40 rfl ?_
  refine keep [0] rfl ?_
  refine W_ret ?_
  exact out1 0 (.sl 0 0 (fin B_WriteOut).length) (π := [16]) (hout := [some (.rows 64 5 (fin B_WriteOut).length (insF (fin B_WriteOut)))]) Tryd.results11 rfl rfl rfl rfl ⟨rfl, trivial⟩ ⟨rfl, rfl⟩

theorem ok_WriteOut : mayB (fin B_WriteOut) = true ∧ 0 < (fin B_WriteOut).length ∧ (fin B_WriteOut).length ≤ 1000 := by decide +kernel


end Go.Proofs.YtnnjobmiepnedaaDoor.Nice
