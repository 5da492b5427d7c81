/- The codes of package stack. -/
import Derived.Test.YtnnjobmiepnedaaDoorZAsmT
namespace Go.Proofs.YtnnjobmiepnedaaDoor.Nice
open Go
set_option linter.unusedVariables false
set_option linter.unusedSimpArgs false
set_option maxRecDepth 100000
set_option maxHeartbeats 4000000
abbrev st_at : ByteArray := ⟨#[97, 116]⟩
abbrev st_base : ByteArray := ⟨#[98, 97, 115, 101]⟩
abbrev st_free : ByteArray := ⟨#[102, 114, 101, 101]⟩
abbrev st_full : ByteArray := ⟨#[102, 117, 108, 108]⟩
abbrev st_next : ByteArray := ⟨#[110, 101, 120, 116]⟩
abbrev st_node : ByteArray := ⟨#[110, 111, 100, 101]⟩
abbrev st_none : ByteArray := ⟨#[110, 111, 110, 101]⟩
abbrev st_now : ByteArray := ⟨#[110, 111, 119]⟩
abbrev st_one : ByteArray := ⟨#[111, 110, 101]⟩
abbrev st_put : ByteArray := ⟨#[112, 117, 116]⟩
abbrev st_take : ByteArray := ⟨#[116, 97, 107, 101]⟩
abbrev st_turn : ByteArray := ⟨#[116, 117, 114, 110]⟩
abbrev st_two : ByteArray := ⟨#[116, 119, 111]⟩
abbrev st_v : ByteArray := ⟨#[118]⟩
abbrev st_value : ByteArray := ⟨#[118, 97, 108, 117, 101]⟩
abbrev st_wide : ByteArray := ⟨#[119, 105, 100, 101]⟩
theorem stack_may_any (nodes : Int) : Spec Tryd.prog GV 48 [SV.i nodes] [] (fun r ho => r = SV.b ((decide (1 ≤ nodes) && decide (nodes ≤ 8))) ∧ ho = []) := by
  refine start 9 0 Tryd.func48 rfl rfl rfl rfl ?_
  refine r1 ?_
  refine s1 2 0 1 rfl rfl rfl rfl rfl rfl trivial ?_
  refine e1 8 rfl ?_
  refine keep [0] rfl ?_
  refine r1 ?_
  refine s1 3 8 1 rfl rfl rfl rfl rfl rfl trivial ?_
  refine s1 4 16 2 rfl rfl rfl rfl rfl rfl (by first | trivial | omega) ?_
  refine s1 5 24 3 rfl rfl rfl rfl rfl rfl trivial ?_
  refine ask 5 rfl (fun hg1_5 => ?_) (fun hg1_5 => ?_)
  · skip
    try simp only [cs, ne_eq] at hg1_5
    refine g1 2 true 5 6 4 rfl rfl rfl rfl rfl ?_
    refine s1 6 32 4 rfl rfl rfl rfl rfl rfl trivial ?_
    refine g1 2 true 5 7 5 rfl rfl rfl rfl rfl ?_
    refine s1 7 40 5 rfl rfl rfl rfl rfl rfl (by first | trivial | omega) ?_
    refine s1 8 48 6 rfl rfl rfl rfl rfl rfl trivial ?_
    refine s1 2 56 7 rfl rfl rfl rfl rfl rfl trivial ?_
    refine e1 64 rfl ?_
    refine keep [2] rfl ?_
    refine W_ret ?_
    exact out1 2 (SV.b ((decide (1 ≤ nodes) && decide (nodes ≤ 8)))) (π := []) (hout := []) Tryd.results48 rfl (by show SV.b _ = SV.b _; refine congrArg SV.b (Bool.eq_iff_iff.2 ?_); simp at *; try omega) rfl rfl trivial ⟨rfl, rfl⟩
  try simp only [cs, ne_eq] at hg1_5
  refine g0 2 true 5 6 4 rfl rfl rfl rfl rfl rfl ?_
  refine g0 2 true 5 7 5 rfl rfl rfl rfl rfl rfl ?_
  refine s1 8 48 6 rfl rfl rfl rfl rfl rfl trivial ?_
  refine s1 2 56 7 rfl rfl rfl rfl rfl rfl trivial ?_
  refine e1 64 rfl ?_
  refine keep [2] rfl ?_
  refine W_ret ?_
  exact out1 2 (SV.b ((decide (1 ≤ nodes) && decide (nodes ≤ 8)))) (π := []) (hout := []) Tryd.results48 rfl (by show SV.b _ = SV.b _; refine congrArg SV.b (Bool.eq_iff_iff.2 ?_); simp at *; try omega) rfl rfl trivial ⟨rfl, rfl⟩

def B_begun (l : List ByteArray) : Bld := ((((mk l).set st_one 1).set st_two 2).set st_wide 64)
theorem give_begun (l : List ByteArray) (hl : l.length ≤ 100) : Spec Tryd.prog GV 49 [.d (.vec 1 l.length (strsF l))] [] (fun r ho => r = .ptr 0 0 0 ∧ ho = [some (.cells 114 4 [.sl 1 0 (B_begun l).ops.length, .map 2, .sl 3 0 (B_begun l).gotos.length, .map 4]), some (.rows 64 5 (B_begun l).ops.length (insF (B_begun l).ops)), some (.map (mapE (B_begun l).places)), some (.rows 116 2 (B_begun l).gotos.length (gotoF (B_begun l).gotos)), some (.map (mapE (B_begun l).regs))]) := by
  refine start 8 0 Tryd.func49 rfl rfl rfl rfl ?_
  refine r1 ?_
  refine s1 2 0 1 rfl rfl rfl rfl rfl rfl trivial ?_
  refine e1 8 rfl ?_
  refine keep [0] rfl ?_
  refine r1 ?_
  refine s1 3 8 1 rfl rfl rfl rfl rfl rfl trivial ?_
  refine c1 (new_any l hl) [] [16, 17, 18, 19, 20] 4 16 2 rfl rfl rfl rfl rfl rfl rfl rfl Tryd.func34 rfl rfl rfl rfl trivial rfl rfl ?_
  have hb1 := ok_mk l
  refine c1 (set_any (mk l) st_one 1 hb1 (by decide)) [16, 17, 18, 19, 20] [16, 17, 18, 19, 20, 24] 5 24 3 rfl rfl rfl rfl rfl rfl rfl rfl Tryd.func54 rfl rfl rfl rfl ⟨rfl, rfl, rfl, rfl, rfl, trivial⟩ rfl rfl ?_
  have hb2 := ok_set st_one 1 hb1
  refine c1 (set_any ((mk l).set st_one 1) st_two 2 hb2 (by decide)) [16, 24, 18, 19, 20] [16, 24, 18, 19, 20, 32] 6 32 4 rfl rfl rfl rfl rfl rfl rfl rfl Tryd.func54 rfl rfl rfl rfl ⟨rfl, rfl, rfl, rfl, rfl, trivial⟩ rfl rfl ?_
  have hb3 := ok_set st_two 2 hb2
  refine c1 (set_any (((mk l).set st_one 1).set st_two 2) st_wide 64 hb3 (by decide)) [16, 32, 18, 19, 20] [16, 32, 18, 19, 20, 40] 7 40 5 rfl rfl rfl rfl rfl rfl rfl rfl Tryd.func54 rfl rfl rfl rfl ⟨rfl, rfl, rfl, rfl, rfl, trivial⟩ rfl rfl ?_
  have hb4 := ok_set st_wide 64 hb3
  refine s1 2 48 6 rfl rfl rfl rfl rfl rfl trivial ?_
  refine e1 56 rfl ?_
  refine keep [2] rfl ?_
  refine W_ret ?_
  exact out1 2 (.ptr 0 0 0) (π := [16, 40, 18, 19, 20]) (hout := [some (.cells 114 4 [.sl 1 0 (B_begun l).ops.length, .map 2, .sl 3 0 (B_begun l).gotos.length, .map 4]), some (.rows 64 5 (B_begun l).ops.length (insF (B_begun l).ops)), some (.map (mapE (B_begun l).places)), some (.rows 116 2 (B_begun l).gotos.length (gotoF (B_begun l).gotos)), some (.map (mapE (B_begun l).regs))]) Tryd.results49 rfl rfl rfl rfl ⟨rfl, rfl, rfl, rfl, rfl, trivial⟩ ⟨rfl, rfl⟩

theorem okb_begun (l : List ByteArray) : (B_begun l).ok 3 := ok_set st_wide 64 (ok_set st_two 2 (ok_set st_one 1 (ok_mk l)))

def B_begun0  : Bld := ((((mk []).set st_one 1).set st_two 2).set st_wide 64)
theorem give_begun0  : Spec Tryd.prog GV 49 [.d .nils] [] (fun r ho => r = .ptr 0 0 0 ∧ ho = [some (.cells 114 4 [.sl 1 0 (B_begun0).ops.length, .map 2, .sl 3 0 (B_begun0).gotos.length, .map 4]), some (.rows 64 5 (B_begun0).ops.length (insF (B_begun0).ops)), some (.map (mapE (B_begun0).places)), some (.rows 116 2 (B_begun0).gotos.length (gotoF (B_begun0).gotos)), some (.map (mapE (B_begun0).regs))]) := by
  refine start 8 0 Tryd.func49 rfl rfl rfl rfl ?_
  refine r1 ?_
  refine s1 2 0 1 rfl rfl rfl rfl rfl rfl trivial ?_
  refine e1 8 rfl ?_
  refine keep [0] rfl ?_
  refine r1 ?_
  refine s1 3 8 1 rfl rfl rfl rfl rfl rfl trivial ?_
  refine c1 (nil_any) [] [16, 17, 18, 19, 20] 4 16 2 rfl rfl rfl rfl rfl rfl rfl rfl Tryd.func34 rfl rfl rfl rfl trivial rfl rfl ?_
  have hb1 := ok_mk []
  refine c1 (set_any (mk []) st_one 1 hb1 (by decide)) [16, 17, 18, 19, 20] [16, 17, 18, 19, 20, 24] 5 24 3 rfl rfl rfl rfl rfl rfl rfl rfl Tryd.func54 rfl rfl rfl rfl ⟨rfl, rfl, rfl, rfl, rfl, trivial⟩ rfl rfl ?_
  have hb2 := ok_set st_one 1 hb1
  refine c1 (set_any ((mk []).set st_one 1) st_two 2 hb2 (by decide)) [16, 24, 18, 19, 20] [16, 24, 18, 19, 20, 32] 6 32 4 rfl rfl rfl rfl rfl rfl rfl rfl Tryd.func54 rfl rfl rfl rfl ⟨rfl, rfl, rfl, rfl, rfl, trivial⟩ rfl rfl ?_
  have hb3 := ok_set st_two 2 hb2
  refine c1 (set_any (((mk []).set st_one 1).set st_two 2) st_wide 64 hb3 (by decide)) [16, 32, 18, 19, 20] [16, 32, 18, 19, 20, 40] 7 40 5 rfl rfl rfl rfl rfl rfl rfl rfl Tryd.func54 rfl rfl rfl rfl ⟨rfl, rfl, rfl, rfl, rfl, trivial⟩ rfl rfl ?_
  have hb4 := ok_set st_wide 64 hb3
  refine s1 2 48 6 rfl rfl rfl rfl rfl rfl trivial ?_
  refine e1 56 rfl ?_
  refine keep [2] rfl ?_
  refine W_ret ?_
  exact out1 2 (.ptr 0 0 0) (π := [16, 40, 18, 19, 20]) (hout := [some (.cells 114 4 [.sl 1 0 (B_begun0).ops.length, .map 2, .sl 3 0 (B_begun0).gotos.length, .map 4]), some (.rows 64 5 (B_begun0).ops.length (insF (B_begun0).ops)), some (.map (mapE (B_begun0).places)), some (.rows 116 2 (B_begun0).gotos.length (gotoF (B_begun0).gotos)), some (.map (mapE (B_begun0).regs))]) Tryd.results49 rfl rfl rfl rfl ⟨rfl, rfl, rfl, rfl, rfl, trivial⟩ ⟨rfl, rfl⟩

theorem okb_begun0  : (B_begun0).ok 3 := ok_set st_wide 64 (ok_set st_two 2 (ok_set st_one 1 (ok_mk [])))

def B_take (B : Bld) (list : Int) (again nope : ByteArray) : Bld := (((((((((((((B.mark again).word 13 st_now st_base list).doo 7 st_node st_now st_wide).iff 12 st_node nope).doo 5 st_at st_node st_two).word 13 st_next st_at 1).word 13 st_value st_at 0).doo 6 st_turn st_now st_wide).doo 3 st_turn st_turn st_one).doo 5 st_turn st_turn st_wide).doo 3 st_turn st_turn st_next).cas st_turn st_base list st_now).iff 12 st_turn again)
theorem turn_take (B : Bld) (list : Int) (again nope : ByteArray)  {n : Nat} (h : B.ok n) (hn : n ≤ 80000) : Spec Tryd.prog GV 50 [.ptr 0 0 0, SV.i list, .d (.val (.string again)), .d (.val (.string nope))] [.cells 114 4 [.sl 1 0 B.ops.length, .map 2, .sl 3 0 B.gotos.length, .map 4], .rows 64 5 B.ops.length (insF B.ops), .map (mapE B.places), .rows 116 2 B.gotos.length (gotoF B.gotos), .map (mapE B.regs)] (fun r ho => r = SV.tup [] ∧ ho = [some (.cells 114 4 [.sl 6 0 (B_take B list again nope).ops.length, .map 2, .sl 5 0 (B_take B list again nope).gotos.length, .map 4]), none, some (.map (mapE (B_take B list again nope).places)), none, some (.map (mapE (B_take B list again nope).regs)), some (.rows 116 2 (B_take B list again nope).gotos.length (gotoF (B_take B list again nope).gotos)), some (.rows 64 5 (B_take B list again nope).ops.length (insF (B_take B list again nope).ops))]) := by
  refine start 30 5 Tryd.func50 rfl rfl rfl rfl ?_
  refine r1 ?_
  refine s1 8 5 1 rfl rfl rfl rfl rfl rfl trivial ?_
  refine s1 9 13 2 rfl rfl rfl rfl rfl rfl trivial ?_
  refine c1 (mark_any B again h (by omega)) [0, 1, 2, 3, 4] [0, 1, 2, 3, 4] 10 21 3 rfl rfl rfl rfl rfl rfl rfl rfl Tryd.func37 rfl rfl rfl rfl ⟨rfl, rfl, rfl, rfl, rfl, trivial⟩ rfl rfl ?_
  have hb1 := ok_mark again h
  refine s1 11 29 4 rfl rfl rfl rfl rfl rfl trivial ?_
  refine c1 (asmword_any (B.mark again) 13 st_now st_base list hb1 (by omega)) [0, 1, 2, 3, 4] [0, 1, 2, 3, 4, 37] 12 37 5 rfl rfl rfl rfl rfl rfl rfl rfl Tryd.func35 rfl rfl rfl rfl ⟨rfl, rfl, rfl, rfl, rfl, trivial⟩ rfl rfl ?_
  have hb2 := ok_word 13 st_now st_base list hb1
  refine c1 (doo_any ((B.mark again).word 13 st_now st_base list) 7 st_node st_now st_wide hb2 (by omega)) [0, 37, 2, 3, 4] [0, 37, 2, 3, 4, 45] 13 45 6 rfl rfl rfl rfl rfl rfl rfl rfl Tryd.func38 rfl rfl rfl rfl ⟨rfl, rfl, rfl, rfl, rfl, trivial⟩ rfl rfl ?_
  have hb3 := ok_doo 7 st_node st_now st_wide hb2
  refine s1 14 53 7 rfl rfl rfl rfl rfl rfl trivial ?_
  refine c1 (iff_any (((B.mark again).word 13 st_now st_base list).doo 7 st_node st_now st_wide) 12 st_node nope hb3 (by omega)) [0, 45, 2, 3, 4] [0, 45, 2, 3, 4, 61, 62] 15 61 8 rfl rfl rfl rfl rfl rfl rfl rfl Tryd.func33 rfl rfl rfl rfl ⟨rfl, rfl, rfl, rfl, rfl, trivial⟩ rfl rfl ?_
  have hb4 := ok_iff 12 st_node nope hb3
  refine e1 69 rfl ?_
  refine keep [0, 1, 2] rfl ?_
  refine r1 ?_
  refine s1 16 69 1 rfl rfl rfl rfl rfl rfl trivial ?_
  refine c1 (doo_any ((((B.mark again).word 13 st_now st_base list).doo 7 st_node st_now st_wide).iff 12 st_node nope) 5 st_at st_node st_two hb4 (by omega)) [0, 62, 2, 61, 4] [0, 62, 2, 61, 4, 77] 17 77 2 rfl rfl rfl rfl rfl rfl rfl rfl Tryd.func38 rfl rfl rfl rfl ⟨rfl, rfl, rfl, rfl, rfl, trivial⟩ rfl rfl ?_
  have hb5 := ok_doo 5 st_at st_node st_two hb4
  refine c1 (asmword_any (((((B.mark again).word 13 st_now st_base list).doo 7 st_node st_now st_wide).iff 12 st_node nope).doo 5 st_at st_node st_two) 13 st_next st_at 1 hb5 (by omega)) [0, 77, 2, 61, 4] [0, 77, 2, 61, 4, 85] 18 85 3 rfl rfl rfl rfl rfl rfl rfl rfl Tryd.func35 rfl rfl rfl rfl ⟨rfl, rfl, rfl, rfl, rfl, trivial⟩ rfl rfl ?_
  have hb6 := ok_word 13 st_next st_at 1 hb5
  refine c1 (asmword_any ((((((B.mark again).word 13 st_now st_base list).doo 7 st_node st_now st_wide).iff 12 st_node nope).doo 5 st_at st_node st_two).word 13 st_next st_at 1) 13 st_value st_at 0 hb6 (by omega)) [0, 85, 2, 61, 4] [0, 85, 2, 61, 4, 93] 19 93 4 rfl rfl rfl rfl rfl rfl rfl rfl Tryd.func35 rfl rfl rfl rfl ⟨rfl, rfl, rfl, rfl, rfl, trivial⟩ rfl rfl ?_
  have hb7 := ok_word 13 st_value st_at 0 hb6
  refine e1 101 rfl ?_
  refine keep [0, 1, 2] rfl ?_
  refine r1 ?_
  refine s1 20 101 1 rfl rfl rfl rfl rfl rfl trivial ?_
  refine c1 (doo_any (((((((B.mark again).word 13 st_now st_base list).doo 7 st_node st_now st_wide).iff 12 st_node nope).doo 5 st_at st_node st_two).word 13 st_next st_at 1).word 13 st_value st_at 0) 6 st_turn st_now st_wide hb7 (by omega)) [0, 93, 2, 61, 4] [0, 93, 2, 61, 4, 109] 21 109 2 rfl rfl rfl rfl rfl rfl rfl rfl Tryd.func38 rfl rfl rfl rfl ⟨rfl, rfl, rfl, rfl, rfl, trivial⟩ rfl rfl ?_
  have hb8 := ok_doo 6 st_turn st_now st_wide hb7
  refine c1 (doo_any ((((((((B.mark again).word 13 st_now st_base list).doo 7 st_node st_now st_wide).iff 12 st_node nope).doo 5 st_at st_node st_two).word 13 st_next st_at 1).word 13 st_value st_at 0).doo 6 st_turn st_now st_wide) 3 st_turn st_turn st_one hb8 (by omega)) [0, 109, 2, 61, 4] [0, 109, 2, 61, 4, 117] 22 117 3 rfl rfl rfl rfl rfl rfl rfl rfl Tryd.func38 rfl rfl rfl rfl ⟨rfl, rfl, rfl, rfl, rfl, trivial⟩ rfl rfl ?_
  have hb9 := ok_doo 3 st_turn st_turn st_one hb8
  refine c1 (doo_any (((((((((B.mark again).word 13 st_now st_base list).doo 7 st_node st_now st_wide).iff 12 st_node nope).doo 5 st_at st_node st_two).word 13 st_next st_at 1).word 13 st_value st_at 0).doo 6 st_turn st_now st_wide).doo 3 st_turn st_turn st_one) 5 st_turn st_turn st_wide hb9 (by omega)) [0, 117, 2, 61, 4] [0, 117, 2, 61, 4, 125] 23 125 4 rfl rfl rfl rfl rfl rfl rfl rfl Tryd.func38 rfl rfl rfl rfl ⟨rfl, rfl, rfl, rfl, rfl, trivial⟩ rfl rfl ?_
  have hb10 := ok_doo 5 st_turn st_turn st_wide hb9
  refine c1 (doo_any ((((((((((B.mark again).word 13 st_now st_base list).doo 7 st_node st_now st_wide).iff 12 st_node nope).doo 5 st_at st_node st_two).word 13 st_next st_at 1).word 13 st_value st_at 0).doo 6 st_turn st_now st_wide).doo 3 st_turn st_turn st_one).doo 5 st_turn st_turn st_wide) 3 st_turn st_turn st_next hb10 (by omega)) [0, 125, 2, 61, 4] [0, 125, 2, 61, 4, 133] 24 133 5 rfl rfl rfl rfl rfl rfl rfl rfl Tryd.func38 rfl rfl rfl rfl ⟨rfl, rfl, rfl, rfl, rfl, trivial⟩ rfl rfl ?_
  have hb11 := ok_doo 3 st_turn st_turn st_next hb10
  refine e1 141 rfl ?_
  refine keep [0, 1, 2] rfl ?_
  refine r0 ?_
  refine s1 25 141 1 rfl rfl rfl rfl rfl rfl trivial ?_
  refine s1 26 149 2 rfl rfl rfl rfl rfl rfl trivial ?_
  refine c1 (cas_any (((((((((((B.mark again).word 13 st_now st_base list).doo 7 st_node st_now st_wide).iff 12 st_node nope).doo 5 st_at st_node st_two).word 13 st_next st_at 1).word 13 st_value st_at 0).doo 6 st_turn st_now st_wide).doo 3 st_turn st_turn st_one).doo 5 st_turn st_turn st_wide).doo 3 st_turn st_turn st_next) st_turn st_base list st_now hb11 (by omega)) [0, 133, 2, 61, 4] [0, 133, 2, 61, 4, 157] 27 157 3 rfl rfl rfl rfl rfl rfl rfl rfl Tryd.func39 rfl rfl rfl rfl ⟨rfl, rfl, rfl, rfl, rfl, trivial⟩ rfl rfl ?_
  have hb12 := ok_cas st_turn st_base list st_now hb11
  refine s1 28 165 4 rfl rfl rfl rfl rfl rfl trivial ?_
  refine c1 (iff_any ((((((((((((B.mark again).word 13 st_now st_base list).doo 7 st_node st_now st_wide).iff 12 st_node nope).doo 5 st_at st_node st_two).word 13 st_next st_at 1).word 13 st_value st_at 0).doo 6 st_turn st_now st_wide).doo 3 st_turn st_turn st_one).doo 5 st_turn st_turn st_wide).doo 3 st_turn st_turn st_next).cas st_turn st_base list st_now) 12 st_turn again hb12 (by omega)) [0, 157, 2, 61, 4] [0, 157, 2, 61, 4, 173, 174] 29 173 5 rfl rfl rfl rfl rfl rfl rfl rfl Tryd.func33 rfl rfl rfl rfl ⟨rfl, rfl, rfl, rfl, rfl, trivial⟩ rfl rfl ?_
  have hb13 := ok_iff 12 st_turn again hb12
  refine e1 181 rfl ?_
  exact out0 (π := [0, 1, 2, 3, 4, 173, 174]) (hout := [some (.cells 114 4 [.sl 6 0 (B_take B list again nope).ops.length, .map 2, .sl 5 0 (B_take B list again nope).gotos.length, .map 4]), none, some (.map (mapE (B_take B list again nope).places)), none, some (.map (mapE (B_take B list again nope).regs)), some (.rows 116 2 (B_take B list again nope).gotos.length (gotoF (B_take B list again nope).gotos)), some (.rows 64 5 (B_take B list again nope).ops.length (insF (B_take B list again nope).ops))]) Tryd.results50 rfl rfl ⟨rfl, rfl, rfl, rfl, rfl, trivial⟩ ⟨rfl, rfl⟩

theorem okt_take {B : Bld} (list : Int) (again nope : ByteArray) {n : Nat} (h : B.ok n) : (B_take B list again nope).ok (n + 12) := ok_iff 12 st_turn again (ok_cas st_turn st_base list st_now (ok_doo 3 st_turn st_turn st_next (ok_doo 5 st_turn st_turn st_wide (ok_doo 3 st_turn st_turn st_one (ok_doo 6 st_turn st_now st_wide (ok_word 13 st_value st_at 0 (ok_word 13 st_next st_at 1 (ok_doo 5 st_at st_node st_two (ok_iff 12 st_node nope (ok_doo 7 st_node st_now st_wide (ok_word 13 st_now st_base list (ok_mark again (h)))))))))))))

def B_give (B : Bld) (list : Int) (again : ByteArray) : Bld := ((((((((((B.mark again).word 13 st_now st_base list).doo 7 st_next st_now st_wide).word 14 st_next st_at 1).doo 6 st_turn st_now st_wide).doo 3 st_turn st_turn st_one).doo 5 st_turn st_turn st_wide).doo 3 st_turn st_turn st_node).cas st_turn st_base list st_now).iff 12 st_turn again)
theorem turn_give (B : Bld) (list : Int) (again : ByteArray)  {n : Nat} (h : B.ok n) (hn : n ≤ 80000) : Spec Tryd.prog GV 51 [.ptr 0 0 0, SV.i list, .d (.val (.string again))] [.cells 114 4 [.sl 1 0 B.ops.length, .map 2, .sl 3 0 B.gotos.length, .map 4], .rows 64 5 B.ops.length (insF B.ops), .map (mapE B.places), .rows 116 2 B.gotos.length (gotoF B.gotos), .map (mapE B.regs)] (fun r ho => r = SV.tup [] ∧ ho = [some (.cells 114 4 [.sl 6 0 (B_give B list again).ops.length, .map 2, .sl 5 0 (B_give B list again).gotos.length, .map 4]), none, some (.map (mapE (B_give B list again).places)), none, some (.map (mapE (B_give B list again).regs)), some (.rows 116 2 (B_give B list again).gotos.length (gotoF (B_give B list again).gotos)), some (.rows 64 5 (B_give B list again).ops.length (insF (B_give B list again).ops))]) := by
  refine start 23 5 Tryd.func51 rfl rfl rfl rfl ?_
  refine r1 ?_
  refine s1 6 5 1 rfl rfl rfl rfl rfl rfl trivial ?_
  refine s1 7 13 2 rfl rfl rfl rfl rfl rfl trivial ?_
  refine c1 (mark_any B again h (by omega)) [0, 1, 2, 3, 4] [0, 1, 2, 3, 4] 8 21 3 rfl rfl rfl rfl rfl rfl rfl rfl Tryd.func37 rfl rfl rfl rfl ⟨rfl, rfl, rfl, rfl, rfl, trivial⟩ rfl rfl ?_
  have hb1 := ok_mark again h
  refine s1 9 29 4 rfl rfl rfl rfl rfl rfl trivial ?_
  refine c1 (asmword_any (B.mark again) 13 st_now st_base list hb1 (by omega)) [0, 1, 2, 3, 4] [0, 1, 2, 3, 4, 37] 10 37 5 rfl rfl rfl rfl rfl rfl rfl rfl Tryd.func35 rfl rfl rfl rfl ⟨rfl, rfl, rfl, rfl, rfl, trivial⟩ rfl rfl ?_
  have hb2 := ok_word 13 st_now st_base list hb1
  refine c1 (doo_any ((B.mark again).word 13 st_now st_base list) 7 st_next st_now st_wide hb2 (by omega)) [0, 37, 2, 3, 4] [0, 37, 2, 3, 4, 45] 11 45 6 rfl rfl rfl rfl rfl rfl rfl rfl Tryd.func38 rfl rfl rfl rfl ⟨rfl, rfl, rfl, rfl, rfl, trivial⟩ rfl rfl ?_
  have hb3 := ok_doo 7 st_next st_now st_wide hb2
  refine c1 (asmword_any (((B.mark again).word 13 st_now st_base list).doo 7 st_next st_now st_wide) 14 st_next st_at 1 hb3 (by omega)) [0, 45, 2, 3, 4] [0, 45, 2, 3, 4, 53] 12 53 7 rfl rfl rfl rfl rfl rfl rfl rfl Tryd.func35 rfl rfl rfl rfl ⟨rfl, rfl, rfl, rfl, rfl, trivial⟩ rfl rfl ?_
  have hb4 := ok_word 14 st_next st_at 1 hb3
  refine e1 61 rfl ?_
  refine keep [0, 1, 2] rfl ?_
  refine r1 ?_
  refine s1 13 61 1 rfl rfl rfl rfl rfl rfl trivial ?_
  refine c1 (doo_any ((((B.mark again).word 13 st_now st_base list).doo 7 st_next st_now st_wide).word 14 st_next st_at 1) 6 st_turn st_now st_wide hb4 (by omega)) [0, 53, 2, 3, 4] [0, 53, 2, 3, 4, 69] 14 69 2 rfl rfl rfl rfl rfl rfl rfl rfl Tryd.func38 rfl rfl rfl rfl ⟨rfl, rfl, rfl, rfl, rfl, trivial⟩ rfl rfl ?_
  have hb5 := ok_doo 6 st_turn st_now st_wide hb4
  refine c1 (doo_any (((((B.mark again).word 13 st_now st_base list).doo 7 st_next st_now st_wide).word 14 st_next st_at 1).doo 6 st_turn st_now st_wide) 3 st_turn st_turn st_one hb5 (by omega)) [0, 69, 2, 3, 4] [0, 69, 2, 3, 4, 77] 15 77 3 rfl rfl rfl rfl rfl rfl rfl rfl Tryd.func38 rfl rfl rfl rfl ⟨rfl, rfl, rfl, rfl, rfl, trivial⟩ rfl rfl ?_
  have hb6 := ok_doo 3 st_turn st_turn st_one hb5
  refine c1 (doo_any ((((((B.mark again).word 13 st_now st_base list).doo 7 st_next st_now st_wide).word 14 st_next st_at 1).doo 6 st_turn st_now st_wide).doo 3 st_turn st_turn st_one) 5 st_turn st_turn st_wide hb6 (by omega)) [0, 77, 2, 3, 4] [0, 77, 2, 3, 4, 85] 16 85 4 rfl rfl rfl rfl rfl rfl rfl rfl Tryd.func38 rfl rfl rfl rfl ⟨rfl, rfl, rfl, rfl, rfl, trivial⟩ rfl rfl ?_
  have hb7 := ok_doo 5 st_turn st_turn st_wide hb6
  refine c1 (doo_any (((((((B.mark again).word 13 st_now st_base list).doo 7 st_next st_now st_wide).word 14 st_next st_at 1).doo 6 st_turn st_now st_wide).doo 3 st_turn st_turn st_one).doo 5 st_turn st_turn st_wide) 3 st_turn st_turn st_node hb7 (by omega)) [0, 85, 2, 3, 4] [0, 85, 2, 3, 4, 93] 17 93 5 rfl rfl rfl rfl rfl rfl rfl rfl Tryd.func38 rfl rfl rfl rfl ⟨rfl, rfl, rfl, rfl, rfl, trivial⟩ rfl rfl ?_
  have hb8 := ok_doo 3 st_turn st_turn st_node hb7
  refine e1 101 rfl ?_
  refine keep [0, 1, 2] rfl ?_
  refine r0 ?_
  refine s1 18 101 1 rfl rfl rfl rfl rfl rfl trivial ?_
  refine s1 19 109 2 rfl rfl rfl rfl rfl rfl trivial ?_
  refine c1 (cas_any ((((((((B.mark again).word 13 st_now st_base list).doo 7 st_next st_now st_wide).word 14 st_next st_at 1).doo 6 st_turn st_now st_wide).doo 3 st_turn st_turn st_one).doo 5 st_turn st_turn st_wide).doo 3 st_turn st_turn st_node) st_turn st_base list st_now hb8 (by omega)) [0, 93, 2, 3, 4] [0, 93, 2, 3, 4, 117] 20 117 3 rfl rfl rfl rfl rfl rfl rfl rfl Tryd.func39 rfl rfl rfl rfl ⟨rfl, rfl, rfl, rfl, rfl, trivial⟩ rfl rfl ?_
  have hb9 := ok_cas st_turn st_base list st_now hb8
  refine s1 21 125 4 rfl rfl rfl rfl rfl rfl trivial ?_
  refine c1 (iff_any (((((((((B.mark again).word 13 st_now st_base list).doo 7 st_next st_now st_wide).word 14 st_next st_at 1).doo 6 st_turn st_now st_wide).doo 3 st_turn st_turn st_one).doo 5 st_turn st_turn st_wide).doo 3 st_turn st_turn st_node).cas st_turn st_base list st_now) 12 st_turn again hb9 (by omega)) [0, 117, 2, 3, 4] [0, 117, 2, 3, 4, 133, 134] 22 133 5 rfl rfl rfl rfl rfl rfl rfl rfl Tryd.func33 rfl rfl rfl rfl ⟨rfl, rfl, rfl, rfl, rfl, trivial⟩ rfl rfl ?_
  have hb10 := ok_iff 12 st_turn again hb9
  refine e1 141 rfl ?_
  exact out0 (π := [0, 1, 2, 3, 4, 133, 134]) (hout := [some (.cells 114 4 [.sl 6 0 (B_give B list again).ops.length, .map 2, .sl 5 0 (B_give B list again).gotos.length, .map 4]), none, some (.map (mapE (B_give B list again).places)), none, some (.map (mapE (B_give B list again).regs)), some (.rows 116 2 (B_give B list again).gotos.length (gotoF (B_give B list again).gotos)), some (.rows 64 5 (B_give B list again).ops.length (insF (B_give B list again).ops))]) Tryd.results51 rfl rfl ⟨rfl, rfl, rfl, rfl, rfl, trivial⟩ ⟨rfl, rfl⟩

theorem okt_give {B : Bld} (list : Int) (again : ByteArray) {n : Nat} (h : B.ok n) : (B_give B list again).ok (n + 9) := ok_iff 12 st_turn again (ok_cas st_turn st_base list st_now (ok_doo 3 st_turn st_turn st_node (ok_doo 5 st_turn st_turn st_wide (ok_doo 3 st_turn st_turn st_one (ok_doo 6 st_turn st_now st_wide (ok_word 14 st_next st_at 1 (ok_doo 7 st_next st_now st_wide (ok_word 13 st_now st_base list (ok_mark again (h))))))))))

theorem no_Words (nodes : Int) (hr : ¬ (1 ≤ nodes ∧ nodes ≤ 8)) : Spec Tryd.prog GV 22 [SV.i nodes] [] (fun r ho => r = SV.tup [.d .nils, SV.i 2] ∧ ho = []) := by
  refine start 28 0 Tryd.func22 rfl rfl rfl rfl ?_
  refine r1 ?_
  refine s1 2 0 1 rfl rfl rfl rfl rfl rfl trivial ?_
  refine s1 3 8 2 rfl rfl rfl rfl rfl rfl trivial ?_
  refine e1 16 rfl ?_
  refine keep [0] rfl ?_
  refine W_seq ?_
  refine r1 ?_
  refine s1 6 16 1 rfl rfl rfl rfl rfl rfl trivial ?_
  refine c1 (stack_may_any nodes) [] [] 7 24 2 rfl rfl rfl rfl rfl rfl rfl rfl Tryd.func48 rfl rfl rfl rfl trivial rfl rfl ?_
  refine s1 8 32 3 rfl rfl rfl rfl rfl rfl trivial ?_
  refine e1 40 rfl ?_
  refine keep [0, 8] rfl ?_
  refine q1 rfl (fun hc1 => ?_) (fun hc1 => ?_)
  · skip
    try simp only [cs, ne_eq] at hc1
    refine r1 ?_
    refine s1 2 40 1 rfl rfl rfl rfl rfl rfl trivial ?_
    refine s1 3 48 2 rfl rfl rfl rfl rfl rfl trivial ?_
    refine e1 56 rfl ?_
    refine keep [2, 3] rfl ?_
    refine W_ret ?_
    refine tr ?_
    exact out2 2 3 (.d .nils) (SV.i 2) (π := []) (hout := []) Tryd.results22 rfl rfl rfl rfl rfl rfl trivial ⟨rfl, rfl⟩
  exfalso; simp at hc1; omega

theorem no_Push (nodes : Int) (hr : ¬ (1 ≤ nodes ∧ nodes ≤ 8)) : Spec Tryd.prog GV 23 [SV.i nodes] [] (fun r ho => r = SV.tup [.d .nils, SV.i 2] ∧ ho = []) := by
  refine start 24 0 Tryd.func23 rfl rfl rfl rfl ?_
  refine r1 ?_
  refine s1 2 0 1 rfl rfl rfl rfl rfl rfl trivial ?_
  refine s1 3 8 2 rfl rfl rfl rfl rfl rfl trivial ?_
  refine e1 16 rfl ?_
  refine keep [0] rfl ?_
  refine W_seq ?_
  refine r1 ?_
  refine s1 5 16 1 rfl rfl rfl rfl rfl rfl trivial ?_
  refine c1 (stack_may_any nodes) [] [] 6 24 2 rfl rfl rfl rfl rfl rfl rfl rfl Tryd.func48 rfl rfl rfl rfl trivial rfl rfl ?_
  refine s1 7 32 3 rfl rfl rfl rfl rfl rfl trivial ?_
  refine e1 40 rfl ?_
  refine keep [7] rfl ?_
  refine q1 rfl (fun hc1 => ?_) (fun hc1 => ?_)
  · skip
    try simp only [cs, ne_eq] at hc1
    refine r1 ?_
    refine s1 2 40 1 rfl rfl rfl rfl rfl rfl trivial ?_
    refine s1 3 48 2 rfl rfl rfl rfl rfl rfl trivial ?_
    refine e1 56 rfl ?_
    refine keep [2, 3] rfl ?_
    refine W_ret ?_
    refine tr ?_
    exact out2 2 3 (.d .nils) (SV.i 2) (π := []) (hout := []) Tryd.results23 rfl rfl rfl rfl rfl rfl trivial ⟨rfl, rfl⟩
  exfalso; simp at hc1; omega

theorem no_Pop (nodes : Int) (hr : ¬ (1 ≤ nodes ∧ nodes ≤ 8)) : Spec Tryd.prog GV 24 [SV.i nodes] [] (fun r ho => r = SV.tup [.d .nils, SV.i 2] ∧ ho = []) := by
  refine start 24 0 Tryd.func24 rfl rfl rfl rfl ?_
  refine r1 ?_
  refine s1 2 0 1 rfl rfl rfl rfl rfl rfl trivial ?_
  refine s1 3 8 2 rfl rfl rfl rfl rfl rfl trivial ?_
  refine e1 16 rfl ?_
  refine keep [0] rfl ?_
  refine W_seq ?_
  refine r1 ?_
  refine s1 5 16 1 rfl rfl rfl rfl rfl rfl trivial ?_
  refine c1 (stack_may_any nodes) [] [] 6 24 2 rfl rfl rfl rfl rfl rfl rfl rfl Tryd.func48 rfl rfl rfl rfl trivial rfl rfl ?_
  refine s1 7 32 3 rfl rfl rfl rfl rfl rfl trivial ?_
  refine e1 40 rfl ?_
  refine keep [7] rfl ?_
  refine q1 rfl (fun hc1 => ?_) (fun hc1 => ?_)
  · skip
    try simp only [cs, ne_eq] at hc1
    refine r1 ?_
    refine s1 2 40 1 rfl rfl rfl rfl rfl rfl trivial ?_
    refine s1 3 48 2 rfl rfl rfl rfl rfl rfl trivial ?_
    refine e1 56 rfl ?_
    refine keep [2, 3] rfl ?_
    refine W_ret ?_
    refine tr ?_
    exact out2 2 3 (.d .nils) (SV.i 2) (π := []) (hout := []) Tryd.results24 rfl rfl rfl rfl rfl rfl trivial ⟨rfl, rfl⟩
  exfalso; simp at hc1; omega

theorem yes_Words (nodes : Int) (hr : 1 ≤ nodes ∧ nodes ≤ 8) : Spec Tryd.prog GV 22 [SV.i nodes] [] (fun r ho => r = SV.tup [.sl 0 0 (2 + 2 * nodes).toNat, SV.i 0] ∧ ho = [none]) := by
  refine start 28 0 Tryd.func22 rfl rfl rfl rfl ?_
  refine r1 ?_
  refine s1 2 0 1 rfl rfl rfl rfl rfl rfl trivial ?_
  refine s1 3 8 2 rfl rfl rfl rfl rfl rfl trivial ?_
  refine e1 16 rfl ?_
  refine keep [0] rfl ?_
  refine W_seq ?_
  refine r1 ?_
  refine s1 6 16 1 rfl rfl rfl rfl rfl rfl trivial ?_
  refine c1 (stack_may_any nodes) [] [] 7 24 2 rfl rfl rfl rfl rfl rfl rfl rfl Tryd.func48 rfl rfl rfl rfl trivial rfl rfl ?_
  refine s1 8 32 3 rfl rfl rfl rfl rfl rfl trivial ?_
  refine e1 40 rfl ?_
  refine keep [0, 8] rfl ?_
  refine q1 rfl (fun hc1 => ?_) (fun hc1 => ?_)
  · skip
    exfalso; simp at hc1; omega
  try simp only [cs, ne_eq] at hc1
  refine W_skip ?_
  refine tn ?_
  refine r1 ?_
  refine s1 9 40 1 rfl rfl rfl rfl rfl rfl trivial ?_
  refine sA 10 48 2 rfl rfl rfl rfl rfl rfl rfl rfl rfl (by unfold inRange; omega) ?_
  refine sA 11 56 3 rfl rfl rfl rfl rfl rfl rfl rfl rfl (by unfold inRange; omega) ?_
  refine s1 12 64 4 rfl rfl rfl rfl rfl rfl (by refine ⟨?_, rfl, ?_, ?_⟩; omega; (show _ * 8 ≤ (140737488355328 : Int); omega); omega) ?_
  refine s1 4 72 5 rfl rfl rfl rfl rfl rfl trivial ?_
  refine e1 80 rfl ?_
  refine keep [0, 4] rfl ?_
  refine r1 ?_
  refine s1 13 80 1 rfl rfl rfl rfl rfl rfl trivial ?_
  refine s1 14 88 2 rfl rfl rfl rfl rfl rfl (by omega) ?_
  refine s0 96 3 rfl rfl rfl rfl rfl (by omega) ?_
  refine e1 104 rfl ?_
  refine keep [0, 4] rfl ?_
  refine W_seq ?_
  refine r1 ?_
  refine s1 5 104 1 rfl rfl rfl rfl rfl rfl trivial ?_
  refine e1 112 rfl ?_
  refine keep [0, 4, 5] rfl ?_
  refine W_block ?_
  refine loop (α := Int × (Nat → Nat → D)) 1 (fun z => [(0, SV.i nodes), (4, .sl 0 0 (2 + 2 * nodes).toNat), (5, SV.i z.1)]) (fun z => [some (.rows 3 1 (2 + 2 * nodes).toNat z.2)]) (fun z => 1 ≤ z.1 ∧ z.1 ≤ nodes) (fun z => (nodes - z.1).toNat) (((1, _) : Int × (Nat → Nat → D))) [64] (fun _ => rfl) (by show (1 : Int) ≤ 1 ∧ (1 : Int) ≤ nodes; omega) rfl ⟨rfl, rfl, rfl, trivial⟩ ⟨rfl, trivial⟩ (fun z hx => ?_)
  obtain ⟨n, f⟩ := z
  obtain ⟨hn1, hn2⟩ := hx
  simp only at hn1 hn2
  refine W_seq ?_
  refine r1 ?_
  refine s1 15 1 1 rfl rfl rfl rfl rfl rfl trivial ?_
  refine s1 16 9 2 rfl rfl rfl rfl rfl rfl trivial ?_
  refine s1 17 17 3 rfl rfl rfl rfl rfl rfl (by first | trivial | omega) ?_
  refine e1 25 rfl ?_
  refine keep [0, 4, 5, 17] rfl ?_
  refine q1 rfl (fun hc6 => ?_) (fun hc6 => ?_)
  · skip
    try simp only [cs, ne_eq] at hc6
    refine W_skip ?_
    refine tn ?_
    refine W_seq ?_
    refine W_block ?_
    refine r0 ?_
    refine s1 20 25 1 rfl rfl rfl rfl rfl rfl trivial ?_
    refine s1 21 33 2 rfl rfl rfl rfl rfl rfl trivial ?_
    refine sA 22 41 3 rfl rfl rfl rfl rfl rfl rfl rfl rfl (by unfold inRange; omega) ?_
    refine sA 23 49 4 rfl rfl rfl rfl rfl rfl rfl rfl rfl (by unfold inRange; omega) ?_
    refine s1 24 57 5 rfl rfl rfl rfl rfl rfl trivial ?_
    refine sA 25 65 6 rfl rfl rfl rfl rfl rfl rfl rfl rfl (by unfold inRange; omega) ?_
    refine s1 26 73 7 rfl rfl rfl rfl rfl rfl (by omega) ?_
    refine s0 81 8 rfl rfl rfl rfl rfl (by omega) ?_
    refine e1 89 rfl ?_
    refine bn ?_
    refine tn ?_
    refine r0 ?_
    refine s1 18 89 1 rfl rfl rfl rfl rfl rfl trivial ?_
    refine sA 19 97 2 rfl rfl rfl rfl rfl rfl rfl rfl rfl (by unfold inRange; omega) ?_
    refine s1 5 105 3 rfl rfl rfl rfl rfl rfl trivial ?_
    refine e1 113 rfl ?_
    refine tn ?_
    exact again (((n + 1, _) : Int × (Nat → Nat → D))) [0] (by show 1 ≤ n + 1 ∧ n + 1 ≤ nodes; omega) (by show (nodes - (n + 1)).toNat < (nodes - n).toNat; omega) rfl ⟨rfl, rfl, rfl, trivial⟩ ⟨rfl, trivial⟩
  try simp only [cs, ne_eq] at hc6
  refine W_exit ?_
  refine tx ?_
  refine tx ?_
  refine bx ?_
  refine tn ?_
  refine r1 ?_
  refine s1 27 25 1 rfl rfl rfl rfl rfl rfl trivial ?_
  refine s1 2 33 2 rfl rfl rfl rfl rfl rfl trivial ?_
  refine s1 3 41 3 rfl rfl rfl rfl rfl rfl trivial ?_
  refine e1 49 rfl ?_
  refine keep [2, 3] rfl ?_
  refine W_ret ?_
  exact out2 2 3 (.sl 0 0 (2 + 2 * nodes).toNat) (SV.i 0) (π := [0]) (hout := [none]) Tryd.results22 rfl rfl rfl rfl rfl rfl trivial ⟨rfl, rfl⟩

def B_Push (nodes : Int) : Bld := ((((B_give ((B_take (B_begun [st_v]) 1 st_free st_full).word 14 st_v st_at 0) 0 st_put).tell st_one).done.mark st_full).tell st_base)
theorem yes_Push (nodes : Int) (hr : 1 ≤ nodes ∧ nodes ≤ 8) : Spec Tryd.prog GV 23 [SV.i nodes] [] (fun r ho => r = SV.tup [.sl 0 0 (fin (B_Push nodes)).length, SV.i 0] ∧ ho = [some (.rows 64 5 (fin (B_Push nodes)).length (insF (fin (B_Push nodes))))]) := by
  refine start 24 0 Tryd.func23 rfl rfl rfl rfl ?_
  refine r1 ?_
  refine s1 2 0 1 rfl rfl rfl rfl rfl rfl trivial ?_
  refine s1 3 8 2 rfl rfl rfl rfl rfl rfl trivial ?_
  refine e1 16 rfl ?_
  refine keep [0] rfl ?_
  refine W_seq ?_
  refine r1 ?_
  refine s1 5 16 1 rfl rfl rfl rfl rfl rfl trivial ?_
  refine c1 (stack_may_any nodes) [] [] 6 24 2 rfl rfl rfl rfl rfl rfl rfl rfl Tryd.func48 rfl rfl rfl rfl trivial rfl rfl ?_
  refine s1 7 32 3 rfl rfl rfl rfl rfl rfl trivial ?_
  refine e1 40 rfl ?_
  refine keep [7] rfl ?_
  refine q1 rfl (fun hc1 => ?_) (fun hc1 => ?_)
  · skip
    exfalso; simp at hc1; omega
  try simp only [cs, ne_eq] at hc1
  refine W_skip ?_
  refine tn ?_
  refine r1 ?_
  refine sLit 1 (strsF [st_v]) 8 40 1 rfl rfl rfl rfl rfl rfl rfl rfl rfl (by intro i c hi hc; obtain rfl : i = 0 := (by omega); obtain rfl : c = 0 := (by omega); rfl) ?_
  refine c1 (give_begun [st_v] (by decide)) [] [48, 49, 50, 51, 52] 9 48 2 rfl rfl rfl rfl rfl rfl rfl rfl Tryd.func49 rfl rfl rfl rfl trivial rfl rfl ?_
  have hb1 := okb_begun [st_v]
  refine s1 4 56 3 rfl rfl rfl rfl rfl rfl trivial ?_
  refine e1 64 rfl ?_
  refine keep [4] rfl ?_
  refine r1 ?_
  refine s1 10 64 1 rfl rfl rfl rfl rfl rfl trivial ?_
  refine c1 (turn_take (B_begun [st_v]) 1 st_free st_full  hb1 (by decide)) [48, 49, 50, 51, 52] [48, 49, 50, 51, 52, 72, 73] 11 72 2 rfl rfl rfl rfl rfl rfl rfl rfl Tryd.func50 rfl rfl rfl rfl ⟨rfl, rfl, rfl, rfl, rfl, trivial⟩ rfl rfl ?_
  have hb2 := okt_take 1 st_free st_full hb1
  refine e1 80 rfl ?_
  refine keep [4] rfl ?_
  refine r1 ?_
  refine s1 12 80 1 rfl rfl rfl rfl rfl rfl trivial ?_
  refine c1 (asmword_any (B_take (B_begun [st_v]) 1 st_free st_full) 14 st_v st_at 0 hb2 (by decide)) [48, 73, 50, 72, 52] [48, 73, 50, 72, 52, 88] 13 88 2 rfl rfl rfl rfl rfl rfl rfl rfl Tryd.func35 rfl rfl rfl rfl ⟨rfl, rfl, rfl, rfl, rfl, trivial⟩ rfl rfl ?_
  have hb3 := ok_word 14 st_v st_at 0 hb2
  refine e1 96 rfl ?_
  refine keep [4] rfl ?_
  refine r1 ?_
  refine s1 14 96 1 rfl rfl rfl rfl rfl rfl trivial ?_
  refine c1 (turn_give ((B_take (B_begun [st_v]) 1 st_free st_full).word 14 st_v st_at 0) 0 st_put  hb3 (by decide)) [48, 88, 50, 72, 52] [48, 88, 50, 72, 52, 104, 105] 15 104 2 rfl rfl rfl rfl rfl rfl rfl rfl Tryd.func51 rfl rfl rfl rfl ⟨rfl, rfl, rfl, rfl, rfl, trivial⟩ rfl rfl ?_
  have hb4 := okt_give 0 st_put hb3
  refine e1 112 rfl ?_
  refine keep [4] rfl ?_
  refine r1 ?_
  refine s1 16 112 1 rfl rfl rfl rfl rfl rfl trivial ?_
  refine sLit 1 (strsF [st_one]) 17 120 2 rfl rfl rfl rfl rfl rfl rfl rfl rfl (by intro i c hi hc; obtain rfl : i = 0 := (by omega); obtain rfl : c = 0 := (by omega); rfl) ?_
  refine c1 (tell_any (B_give ((B_take (B_begun [st_v]) 1 st_free st_full).word 14 st_v st_at 0) 0 st_put) st_one hb4 (by decide)) [48, 105, 50, 104, 52] [48, 105, 50, 104, 52, 128] 18 128 3 rfl rfl rfl rfl rfl rfl rfl rfl Tryd.func40 rfl rfl rfl rfl ⟨rfl, rfl, rfl, rfl, rfl, trivial⟩ rfl rfl ?_
  have hb5 := ok_tell st_one hb4
  refine c1 (done_any ((B_give ((B_take (B_begun [st_v]) 1 st_free st_full).word 14 st_v st_at 0) 0 st_put).tell st_one)  hb5 (by decide)) [48, 128, 50, 104, 52] [48, 128, 50, 104, 52, 136] 19 136 4 rfl rfl rfl rfl rfl rfl rfl rfl Tryd.func52 rfl rfl rfl rfl ⟨rfl, rfl, rfl, rfl, rfl, trivial⟩ rfl rfl ?_
  have hb6 := ok_done  hb5
  refine c1 (mark_any ((B_give ((B_take (B_begun [st_v]) 1 st_free st_full).word 14 st_v st_at 0) 0 st_put).tell st_one).done st_full hb6 (by decide)) [48, 136, 50, 104, 52] [48, 136, 50, 104, 52] 20 144 5 rfl rfl rfl rfl rfl rfl rfl rfl Tryd.func37 rfl rfl rfl rfl ⟨rfl, rfl, rfl, rfl, rfl, trivial⟩ rfl rfl ?_
  have hb7 := ok_mark st_full hb6
  refine sLit 1 (strsF [st_base]) 21 152 6 rfl rfl rfl rfl rfl rfl rfl rfl rfl (by intro i c hi hc; obtain rfl : i = 0 := (by omega); obtain rfl : c = 0 := (by omega); rfl) ?_
  refine c1 (tell_any (((B_give ((B_take (B_begun [st_v]) 1 st_free st_full).word 14 st_v st_at 0) 0 st_put).tell st_one).done.mark st_full) st_base hb7 (by decide)) [48, 136, 50, 104, 52] [48, 136, 50, 104, 52, 160] 22 160 7 rfl rfl rfl rfl rfl rfl rfl rfl Tryd.func40 rfl rfl rfl rfl ⟨rfl, rfl, rfl, rfl, rfl, trivial⟩ rfl rfl ?_
  have hb8 := ok_tell st_base hb7
  refine c1 (ops_any ((((B_give ((B_take (B_begun [st_v]) 1 st_free st_full).word 14 st_v st_at 0) 0 st_put).tell st_one).done.mark st_full).tell st_base) hb8 (by decide)) [48, 160, 50, 104, 52] [48, 160, 50, 104, 52] 23 168 8 rfl rfl rfl rfl rfl rfl rfl rfl Tryd.func36 rfl rfl rfl rfl ⟨rfl, rfl, rfl, rfl, rfl, trivial⟩ rfl rfl ?_
  refine s1 2 176 9 rfl rfl rfl rfl rfl rfl trivial ?_
  refine s1 3 184 10 rfl rfl rfl rfl rfl rfl trivial ?_
  refine e1 192 rfl ?_
  refine keep [2, 3] rfl ?_
  refine W_ret ?_
  exact out2 2 3 (.sl 0 0 (fin (B_Push nodes)).length) (SV.i 0) (π := [160]) (hout := [some (.rows 64 5 (fin (B_Push nodes)).length (insF (fin (B_Push nodes))))]) Tryd.results23 rfl rfl rfl rfl rfl rfl ⟨rfl, trivial⟩ ⟨rfl, rfl⟩

theorem ok_Push {nodes : Int} (h : 1 ≤ nodes ∧ nodes ≤ 8) : mayB (fin (B_Push nodes)) = true ∧ 0 < (fin (B_Push nodes)).length ∧ (fin (B_Push nodes)).length ≤ 1000 := by
  obtain rfl | rfl | rfl | rfl | rfl | rfl | rfl | rfl : nodes = 1 ∨ nodes = 2 ∨ nodes = 3 ∨ nodes = 4 ∨ nodes = 5 ∨ nodes = 6 ∨ nodes = 7 ∨ nodes = 8 := (by omega)
  all_goals decide +kernel

def B_Pop (nodes : Int) : Bld := (((((B_give ((B_take B_begun0 0 st_take st_none).copy st_v st_value) 1 st_free).tell st_v).done.mark st_none).set st_v (-1)).tell st_v)
theorem yes_Pop (nodes : Int) (hr : 1 ≤ nodes ∧ nodes ≤ 8) : Spec Tryd.prog GV 24 [SV.i nodes] [] (fun r ho => r = SV.tup [.sl 0 0 (fin (B_Pop nodes)).length, SV.i 0] ∧ ho = [some (.rows 64 5 (fin (B_Pop nodes)).length (insF (fin (B_Pop nodes))))]) := by
  refine start 24 0 Tryd.func24 rfl rfl rfl rfl ?_
  refine r1 ?_
  refine s1 2 0 1 rfl rfl rfl rfl rfl rfl trivial ?_
  refine s1 3 8 2 rfl rfl rfl rfl rfl rfl trivial ?_
  refine e1 16 rfl ?_
  refine keep [0] rfl ?_
  refine W_seq ?_
  refine r1 ?_
  refine s1 5 16 1 rfl rfl rfl rfl rfl rfl trivial ?_
  refine c1 (stack_may_any nodes) [] [] 6 24 2 rfl rfl rfl rfl rfl rfl rfl rfl Tryd.func48 rfl rfl rfl rfl trivial rfl rfl ?_
  refine s1 7 32 3 rfl rfl rfl rfl rfl rfl trivial ?_
  refine e1 40 rfl ?_
  refine keep [7] rfl ?_
  refine q1 rfl (fun hc1 => ?_) (fun hc1 => ?_)
  · skip
    exfalso; simp at hc1; omega
  try simp only [cs, ne_eq] at hc1
  refine W_skip ?_
  refine tn ?_
  refine r1 ?_
  refine c1 (give_begun0 ) [] [40, 41, 42, 43, 44] 8 40 1 rfl rfl rfl rfl rfl rfl rfl rfl Tryd.func49 rfl rfl rfl rfl trivial rfl rfl ?_
  have hb1 := okb_begun0 
  refine s1 4 48 2 rfl rfl rfl rfl rfl rfl trivial ?_
  refine e1 56 rfl ?_
  refine keep [4] rfl ?_
  refine r1 ?_
  refine s1 9 56 1 rfl rfl rfl rfl rfl rfl trivial ?_
  refine c1 (turn_take B_begun0 0 st_take st_none  hb1 (by decide)) [40, 41, 42, 43, 44] [40, 41, 42, 43, 44, 64, 65] 10 64 2 rfl rfl rfl rfl rfl rfl rfl rfl Tryd.func50 rfl rfl rfl rfl ⟨rfl, rfl, rfl, rfl, rfl, trivial⟩ rfl rfl ?_
  have hb2 := okt_take 0 st_take st_none hb1
  refine e1 72 rfl ?_
  refine keep [4] rfl ?_
  refine r1 ?_
  refine s1 11 72 1 rfl rfl rfl rfl rfl rfl trivial ?_
  refine c1 (copy_any (B_take B_begun0 0 st_take st_none) st_v st_value hb2 (by decide)) [40, 65, 42, 64, 44] [40, 65, 42, 64, 44, 80] 12 80 2 rfl rfl rfl rfl rfl rfl rfl rfl Tryd.func53 rfl rfl rfl rfl ⟨rfl, rfl, rfl, rfl, rfl, trivial⟩ rfl rfl ?_
  have hb3 := ok_copy st_v st_value hb2
  refine e1 88 rfl ?_
  refine keep [4] rfl ?_
  refine r1 ?_
  refine s1 13 88 1 rfl rfl rfl rfl rfl rfl trivial ?_
  refine c1 (turn_give ((B_take B_begun0 0 st_take st_none).copy st_v st_value) 1 st_free  hb3 (by decide)) [40, 80, 42, 64, 44] [40, 80, 42, 64, 44, 96, 97] 14 96 2 rfl rfl rfl rfl rfl rfl rfl rfl Tryd.func51 rfl rfl rfl rfl ⟨rfl, rfl, rfl, rfl, rfl, trivial⟩ rfl rfl ?_
  have hb4 := okt_give 1 st_free hb3
  refine e1 104 rfl ?_
  refine keep [4] rfl ?_
  refine r1 ?_
  refine s1 15 104 1 rfl rfl rfl rfl rfl rfl trivial ?_
  refine sLit 1 (strsF [st_v]) 16 112 2 rfl rfl rfl rfl rfl rfl rfl rfl rfl (by intro i c hi hc; obtain rfl : i = 0 := (by omega); obtain rfl : c = 0 := (by omega); rfl) ?_
  refine c1 (tell_any (B_give ((B_take B_begun0 0 st_take st_none).copy st_v st_value) 1 st_free) st_v hb4 (by decide)) [40, 97, 42, 96, 44] [40, 97, 42, 96, 44, 120] 17 120 3 rfl rfl rfl rfl rfl rfl rfl rfl Tryd.func40 rfl rfl rfl rfl ⟨rfl, rfl, rfl, rfl, rfl, trivial⟩ rfl rfl ?_
  have hb5 := ok_tell st_v hb4
  refine c1 (done_any ((B_give ((B_take B_begun0 0 st_take st_none).copy st_v st_value) 1 st_free).tell st_v)  hb5 (by decide)) [40, 120, 42, 96, 44] [40, 120, 42, 96, 44, 128] 18 128 4 rfl rfl rfl rfl rfl rfl rfl rfl Tryd.func52 rfl rfl rfl rfl ⟨rfl, rfl, rfl, rfl, rfl, trivial⟩ rfl rfl ?_
  have hb6 := ok_done  hb5
  refine c1 (mark_any ((B_give ((B_take B_begun0 0 st_take st_none).copy st_v st_value) 1 st_free).tell st_v).done st_none hb6 (by decide)) [40, 128, 42, 96, 44] [40, 128, 42, 96, 44] 19 136 5 rfl rfl rfl rfl rfl rfl rfl rfl Tryd.func37 rfl rfl rfl rfl ⟨rfl, rfl, rfl, rfl, rfl, trivial⟩ rfl rfl ?_
  have hb7 := ok_mark st_none hb6
  refine c1 (set_any (((B_give ((B_take B_begun0 0 st_take st_none).copy st_v st_value) 1 st_free).tell st_v).done.mark st_none) st_v (-1) hb7 (by decide)) [40, 128, 42, 96, 44] [40, 128, 42, 96, 44, 144] 20 144 6 rfl rfl rfl rfl rfl rfl rfl rfl Tryd.func54 rfl rfl rfl rfl ⟨rfl, rfl, rfl, rfl, rfl, trivial⟩ rfl rfl ?_
  have hb8 := ok_set st_v (-1) hb7
  refine sLit 1 (strsF [st_v]) 21 152 7 rfl rfl rfl rfl rfl rfl rfl rfl rfl (by intro i c hi hc; obtain rfl : i = 0 := (by omega); obtain rfl : c = 0 := (by omega); rfl) ?_
  refine c1 (tell_any ((((B_give ((B_take B_begun0 0 st_take st_none).copy st_v st_value) 1 st_free).tell st_v).done.mark st_none).set st_v (-1)) st_v hb8 (by decide)) [40, 144, 42, 96, 44] [40, 144, 42, 96, 44, 160] 22 160 8 rfl rfl rfl rfl rfl rfl rfl rfl Tryd.func40 rfl rfl rfl rfl ⟨rfl, rfl, rfl, rfl, rfl, trivial⟩ rfl rfl ?_
  have hb9 := ok_tell st_v hb8
  refine c1 (ops_any (((((B_give ((B_take B_begun0 0 st_take st_none).copy st_v st_value) 1 st_free).tell st_v).done.mark st_none).set st_v (-1)).tell st_v) hb9 (by decide)) [40, 160, 42, 96, 44] [40, 160, 42, 96, 44] 23 168 9 rfl rfl rfl rfl rfl rfl rfl rfl Tryd.func36 rfl rfl rfl rfl ⟨rfl, rfl, rfl, rfl, rfl, trivial⟩ rfl rfl ?_
  refine s1 2 176 10 rfl rfl rfl rfl rfl rfl trivial ?_
  refine s1 3 184 11 rfl rfl rfl rfl rfl rfl trivial ?_
  refine e1 192 rfl ?_
  refine keep [2, 3] rfl ?_
  refine W_ret ?_
  exact out2 2 3 (.sl 0 0 (fin (B_Pop nodes)).length) (SV.i 0) (π := [160]) (hout := [some (.rows 64 5 (fin (B_Pop nodes)).length (insF (fin (B_Pop nodes))))]) Tryd.results24 rfl rfl rfl rfl rfl rfl ⟨rfl, trivial⟩ ⟨rfl, rfl⟩

theorem ok_Pop {nodes : Int} (h : 1 ≤ nodes ∧ nodes ≤ 8) : mayB (fin (B_Pop nodes)) = true ∧ 0 < (fin (B_Pop nodes)).length ∧ (fin (B_Pop nodes)).length ≤ 1000 := by
  obtain rfl | rfl | rfl | rfl | rfl | rfl | rfl | rfl : nodes = 1 ∨ nodes = 2 ∨ nodes = 3 ∨ nodes = 4 ∨ nodes = 5 ∨ nodes = 6 ∨ nodes = 7 ∨ nodes = 8 := (by omega)
  all_goals decide +kernel


end Go.Proofs.YtnnjobmiepnedaaDoor.Nice
