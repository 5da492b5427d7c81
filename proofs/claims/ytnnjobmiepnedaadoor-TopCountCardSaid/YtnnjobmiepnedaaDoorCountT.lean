/- The codes of package count. -/
import Derived.Test.YtnnjobmiepnedaaDoorAsmT
namespace Go.Proofs.YtnnjobmiepnedaaDoor.Nice
open Go
set_option linter.unusedVariables false
set_option linter.unusedSimpArgs false
set_option maxRecDepth 100000
set_option maxHeartbeats 4000000
abbrev st_again : ByteArray := ⟨#[97, 103, 97, 105, 110]⟩
abbrev st_base : ByteArray := ⟨#[98, 97, 115, 101]⟩
abbrev st_by : ByteArray := ⟨#[98, 121]⟩
abbrev st_new : ByteArray := ⟨#[110, 101, 119]⟩
abbrev st_now : ByteArray := ⟨#[110, 111, 119]⟩
abbrev st_old : ByteArray := ⟨#[111, 108, 100]⟩
theorem yes_Words  : Spec Tryd.prog GV 14 [] [] (fun r ho => r = .sl 0 0 1 ∧ ho = [none]) := by
  refine start 2 0 Tryd.func14 rfl rfl rfl rfl ?_
  refine r1 ?_
  refine s1 0 0 1 rfl rfl rfl rfl rfl rfl trivial ?_
  refine e1 8 rfl ?_
  refine keep [] rfl ?_
  refine r1 ?_
  refine s1 1 8 1 rfl rfl rfl rfl rfl rfl trivial ?_
  refine s1 0 16 2 rfl rfl rfl rfl rfl rfl trivial ?_
  refine e1 24 rfl ?_
  refine keep [0] rfl ?_
  refine W_ret ?_
  exact out1 0 (.sl 0 0 1) (π := [8]) (hout := [none]) Tryd.results14 rfl rfl rfl rfl trivial ⟨rfl, rfl⟩

def B_Add : Bld := (((((((mk [st_by]).mark st_again).word 13 st_old st_base 0).doo 3 st_new st_old st_by).cas st_new st_base 0 st_old).iff 12 st_new st_again).tell st_old)
theorem yes_Add  : Spec Tryd.prog GV 15 [] [] (fun r ho => r = .sl 0 0 (fin B_Add).length ∧ ho = [some (.rows 64 5 (fin B_Add).length (insF (fin B_Add)))]) := by
  refine start 13 0 Tryd.func15 rfl rfl rfl rfl ?_
  refine r1 ?_
  refine s1 0 0 1 rfl rfl rfl rfl rfl rfl trivial ?_
  refine e1 8 rfl ?_
  refine keep [] rfl ?_
  refine r1 ?_
  refine sLit 1 (strsF [st_by]) 2 8 1 rfl rfl rfl rfl rfl rfl rfl rfl rfl (by intro i c hi hc; obtain rfl : i = 0 := (by omega); obtain rfl : c = 0 := (by omega); rfl) ?_
  refine c1 (new_any [st_by] (by decide)) [] [16, 17, 18, 19, 20] 3 16 2 rfl rfl rfl rfl rfl rfl rfl rfl Tryd.func34 rfl rfl rfl rfl trivial rfl rfl ?_
  have hb1 := ok_mk [st_by]
  refine c1 (mark_any (mk [st_by]) st_again hb1 (by decide)) [16, 17, 18, 19, 20] [16, 17, 18, 19, 20] 4 24 3 rfl rfl rfl rfl rfl rfl rfl rfl Tryd.func37 rfl rfl rfl rfl ⟨rfl, rfl, rfl, rfl, rfl, trivial⟩ rfl rfl ?_
  have hb2 := ok_mark st_again hb1
  refine c1 (asmword_any ((mk [st_by]).mark st_again) 13 st_old st_base 0 hb2 (by decide)) [16, 17, 18, 19, 20] [16, 17, 18, 19, 20, 32] 5 32 4 rfl rfl rfl rfl rfl rfl rfl rfl Tryd.func35 rfl rfl rfl rfl ⟨rfl, rfl, rfl, rfl, rfl, trivial⟩ rfl rfl ?_
  have hb3 := ok_word 13 st_old st_base 0 hb2
  refine c1 (doo_any (((mk [st_by]).mark st_again).word 13 st_old st_base 0) 3 st_new st_old st_by hb3 (by decide)) [16, 32, 18, 19, 20] [16, 32, 18, 19, 20, 40] 6 40 5 rfl rfl rfl rfl rfl rfl rfl rfl Tryd.func38 rfl rfl rfl rfl ⟨rfl, rfl, rfl, rfl, rfl, trivial⟩ rfl rfl ?_
  have hb4 := ok_doo 3 st_new st_old st_by hb3
  refine s1 1 48 6 rfl rfl rfl rfl rfl rfl trivial ?_
  refine e1 56 rfl ?_
  refine keep [1] rfl ?_
  refine r1 ?_
  refine s1 7 56 1 rfl rfl rfl rfl rfl rfl trivial ?_
  refine c1 (cas_any ((((mk [st_by]).mark st_again).word 13 st_old st_base 0).doo 3 st_new st_old st_by) st_new st_base 0 st_old hb4 (by decide)) [16, 40, 18, 19, 20] [16, 40, 18, 19, 20, 64] 8 64 2 rfl rfl rfl rfl rfl rfl rfl rfl Tryd.func39 rfl rfl rfl rfl ⟨rfl, rfl, rfl, rfl, rfl, trivial⟩ rfl rfl ?_
  have hb5 := ok_cas st_new st_base 0 st_old hb4
  refine c1 (iff_any (((((mk [st_by]).mark st_again).word 13 st_old st_base 0).doo 3 st_new st_old st_by).cas st_new st_base 0 st_old) 12 st_new st_again hb5 (by decide)) [16, 64, 18, 19, 20] [16, 64, 18, 19, 20, 72, 73] 9 72 3 rfl rfl rfl rfl rfl rfl rfl rfl Tryd.func33 rfl rfl rfl rfl ⟨rfl, rfl, rfl, rfl, rfl, trivial⟩ rfl rfl ?_
  have hb6 := ok_iff 12 st_new st_again hb5
  refine sLit 1 (strsF [st_old]) 10 80 4 rfl rfl rfl rfl rfl rfl rfl rfl rfl (by intro i c hi hc; obtain rfl : i = 0 := (by omega); obtain rfl : c = 0 := (by omega); rfl) ?_
  refine c1 (tell_any ((((((mk [st_by]).mark st_again).word 13 st_old st_base 0).doo 3 st_new st_old st_by).cas st_new st_base 0 st_old).iff 12 st_new st_again) st_old hb6 (by decide)) [16, 73, 18, 72, 20] [16, 73, 18, 72, 20, 88] 11 88 5 rfl rfl rfl rfl rfl rfl rfl rfl Tryd.func40 rfl rfl rfl rfl ⟨rfl, rfl, rfl, rfl, rfl, trivial⟩ rfl rfl ?_
  have hb7 := ok_tell st_old hb6
  refine c1 (ops_any (((((((mk [st_by]).mark st_again).word 13 st_old st_base 0).doo 3 st_new st_old st_by).cas st_new st_base 0 st_old).iff 12 st_new st_again).tell st_old) hb7 (by decide)) [16, 88, 18, 72, 20] [16, 88, 18, 72, 20] 12 96 6 rfl rfl rfl rfl rfl rfl rfl rfl Tryd.func36 rfl rfl rfl rfl ⟨rfl, rfl, rfl, rfl, rfl, trivial⟩ rfl rfl ?_
  refine s1 0 104 7 rfl rfl rfl rfl rfl rfl trivial ?_
  refine e1 112 rfl ?_
  refine keep [0] rfl ?_
  refine W_ret ?_
  exact out1 0 (.sl 0 0 (fin B_Add).length) (π := [88]) (hout := [some (.rows 64 5 (fin B_Add).length (insF (fin B_Add)))]) Tryd.results15 rfl rfl rfl rfl ⟨rfl, trivial⟩ ⟨rfl, rfl⟩

theorem ok_Add : mayB (fin B_Add) = true ∧ 0 < (fin B_Add).length ∧ (fin B_Add).length ≤ 1000 := by decide +kernel

def B_Get : Bld := (((mk []).word 13 st_now st_base 0).tell st_now)
theorem yes_Get  : Spec Tryd.prog GV 16 [] [] (fun r ho => r = .sl 0 0 (fin B_Get).length ∧ ho = [some (.rows 64 5 (fin B_Get).length (insF (fin B_Get)))]) := by
  refine start 6 0 Tryd.func16 rfl rfl rfl rfl ?_
  refine r1 ?_
  refine s1 0 0 1 rfl rfl rfl rfl rfl rfl trivial ?_
  refine e1 8 rfl ?_
  refine keep [] rfl ?_
  refine r1 ?_
  refine c1 (nil_any) [] [8, 9, 10, 11, 12] 1 8 1 rfl rfl rfl rfl rfl rfl rfl rfl Tryd.func34 rfl rfl rfl rfl trivial rfl rfl ?_
  have hb1 := ok_mk []
  refine c1 (asmword_any (mk []) 13 st_now st_base 0 hb1 (by decide)) [8, 9, 10, 11, 12] [8, 9, 10, 11, 12, 16] 2 16 2 rfl rfl rfl rfl rfl rfl rfl rfl Tryd.func35 rfl rfl rfl rfl ⟨rfl, rfl, rfl, rfl, rfl, trivial⟩ rfl rfl ?_
  have hb2 := ok_word 13 st_now st_base 0 hb1
  refine sLit 1 (strsF [st_now]) 3 24 3 rfl rfl rfl rfl rfl rfl rfl rfl rfl (by intro i c hi hc; obtain rfl : i = 0 := (by omega); obtain rfl : c = 0 := (by omega); rfl) ?_
  refine c1 (tell_any ((mk []).word 13 st_now st_base 0) st_now hb2 (by decide)) [8, 16, 10, 11, 12] [8, 16, 10, 11, 12, 32] 4 32 4 rfl rfl rfl rfl rfl rfl rfl rfl Tryd.func40 rfl rfl rfl rfl ⟨rfl, rfl, rfl, rfl, rfl, trivial⟩ rfl rfl ?_
  have hb3 := ok_tell st_now hb2
  refine c1 (ops_any (((mk []).word 13 st_now st_base 0).tell st_now) hb3 (by decide)) [8, 32, 10, 11, 12] [8, 32, 10, 11, 12] 5 40 5 rfl rfl rfl rfl rfl rfl rfl rfl Tryd.func36 rfl rfl rfl rfl ⟨rfl, rfl, rfl, rfl, rfl, trivial⟩ rfl rfl ?_
  refine s1 0 48 6 rfl rfl rfl rfl rfl rfl trivial ?_
  refine e1 56 rfl ?_
  refine keep [0] rfl ?_
  refine W_ret ?_
  exact out1 0 (.sl 0 0 (fin B_Get).length) (π := [32]) (hout := [some (.rows 64 5 (fin B_Get).length (insF (fin B_Get)))]) Tryd.results16 rfl rfl rfl rfl ⟨rfl, trivial⟩ ⟨rfl, rfl⟩

theorem ok_Get : mayB (fin B_Get) = true ∧ 0 < (fin B_Get).length ∧ (fin B_Get).length ≤ 1000 := by decide +kernel


end Go.Proofs.YtnnjobmiepnedaaDoor.Nice
