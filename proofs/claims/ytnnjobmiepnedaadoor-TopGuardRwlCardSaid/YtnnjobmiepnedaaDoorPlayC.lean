/- A thread in a call. -/
import Derived.Test.YtnnjobmiepnedaaDoorPlayB
namespace Go.Proofs.YtnnjobmiepnedaaDoor.Nice
open Go
set_option linter.unusedVariables false
set_option linter.unusedSimpArgs false
set_option maxRecDepth 100000
set_option maxHeartbeats 4000000

theorem playC (q : Mach) (ws : List Int) (out : List Ev) (cs : List CallD) (nx : Int) (C : List Ins) (t : Thr) (nt : Nat) (sc : List Int) (k : Nat) (step j : Int) (hl : Live ws.length C t ws) (hws : ws.length ≤ 200) (hout : out.length ≤ 20000) (hnx : 1 ≤ nx ∧ nx ≤ 1000) (p : Thr × List Int) (hp : vstep C ws t = p) : W ⟨Tryd.prog, 161, 7, GV⟩ (codeAt [1, 1, 1, 1, 1, 1, 0, 1, 0, 0, 1, 1, 0, 0, 1, 1] (Tryd.f20.body.getD .skip)) (fun e σ' => ∃ tl' hout π', (fun e tl hout => (p.1.ov = false ∧ e = .normal ∧ tl = [(2, .ptr 0 0 0), (7, .sl 1 0 p.2.length), (8, .sl 6 0 nt), (11, .sl 2 0 out.length), (45, intsV sc), (46, SV.i sc.length), (47, SV.i k)] ∧ hout = [some (machBlk q), some (intsB p.2), some (evB out), some (.cells 83 3 [callV cs, SV.i nx, .ptr 4 0 0]), some (thrYB 7 C p.1), none, none, some (intsB p.1.told)]) ∨ (p.1.ov = true ∧ e = .normal ∧ tl = [(2, .ptr 0 0 0), (7, .sl 1 0 p.2.length), (8, .sl 6 0 nt), (11, .sl 7 0 (out ++ [(Ev.mk step j (nx - 1) true p.1.e p.1.told)]).length), (45, intsV sc), (46, SV.i sc.length), (47, SV.i k)] ∧ hout = [some (machBlk q), some (intsB p.2), none, some (.cells 83 3 [callV cs, SV.i nx, .d (.val (.pointer none))]), none, none, none, some (evB (out ++ [(Ev.mk step j (nx - 1) true p.1.e p.1.told)]))])) e tl' hout ∧ okF 6 1 hout = true ∧ Sub ⟨Tryd.prog, 161, 7, GV⟩ π' σ' tl' hout) ⟨tOf [(2, .ptr 0 0 0), (7, .sl 1 0 ws.length), (8, .sl 6 0 nt), (11, .sl 2 0 out.length), (12, SV.i step), (13, SV.i j), (14, .ptr 3 0 0), (45, intsV sc), (46, SV.i sc.length), (47, SV.i k)], hOf ([some (machBlk q), some (intsB ws), some (evB out), some (.cells 83 3 [callV cs, SV.i nx, .ptr 4 0 0]), some (thrYB 5 C t), some (intsB t.told)]), 7⟩ := by
  refine W_seq ?_
  refine rd1 rfl ?_
  refine d1 56 7 1 rfl rfl rfl rfl rfl rfl trivial ?_
  refine d1 57 15 2 rfl rfl rfl rfl rfl rfl trivial ?_
  refine d1 58 23 3 rfl rfl rfl rfl rfl rfl trivial ?_
  refine d1 59 31 4 rfl rfl rfl rfl rfl rfl (by first | trivial | omega) ?_
  refine dNilP 60 39 5 rfl rfl rfl rfl rfl rfl rfl rfl ?_
  refine d1 61 47 6 rfl rfl rfl rfl rfl rfl trivial ?_
  refine g0 5 true 61 62 7 rfl rfl rfl rfl rfl rfl ?_
  refine g0 5 true 61 63 8 rfl rfl rfl rfl rfl rfl ?_
  refine g0 5 true 61 64 9 rfl rfl rfl rfl rfl rfl ?_
  refine g0 5 true 61 65 10 rfl rfl rfl rfl rfl rfl ?_
  refine g0 5 true 61 66 11 rfl rfl rfl rfl rfl rfl ?_
  refine g0 5 true 61 67 12 rfl rfl rfl rfl rfl rfl ?_
  refine g0 5 true 61 68 13 rfl rfl rfl rfl rfl rfl ?_
  refine g0 5 true 61 69 14 rfl rfl rfl rfl rfl rfl ?_
  refine g0 5 true 61 70 15 rfl rfl rfl rfl rfl rfl ?_
  refine g0 5 true 61 71 16 rfl rfl rfl rfl rfl rfl ?_
  refine d1 72 135 17 rfl rfl rfl rfl rfl rfl trivial ?_
  refine de1 143 rfl (by kernel_rfl) ?_
  refine keep [2, 7, 8, 11, 12, 13, 14, 45, 46, 47, 72] rfl ?_
  refine q1 rfl (fun hc19 => ?_) (fun hc19 => ?_)
  · skip
    exact absurd hc19 (by decide)
  · skip
    try simp only [cs, ne_eq] at hc19
    refine W_skip ?_
    refine tn ?_
    refine W_focus [0, 1, 2, 3, 4, 5] [6] [(2, .ptr 0 0 0), (7, .sl 1 0 ws.length), (8, .sl 6 0 nt), (11, .sl 2 0 out.length), (12, SV.i step), (13, SV.i j), (14, .ptr 3 0 0), (45, intsV sc), (46, SV.i sc.length), (47, SV.i k)] [machBlk q, intsB ws, evB out, .cells 83 3 [callV cs, SV.i nx, .ptr 4 0 0], thrYB 5 C t, intsB t.told] (playB q ws out cs nx C t nt sc k step j hl hws hout hnx p hp) rfl ⟨rfl, rfl, rfl, rfl, rfl, rfl, rfl, rfl, rfl, rfl, trivial⟩ ⟨rfl, rfl, rfl, rfl, rfl, rfl, trivial⟩ ?_
    rintro e tl' hout (⟨hov, rfl, rfl, rfl⟩ | ⟨hov, rfl, rfl, rfl⟩) -
    · skip
      exact ⟨[(2, .ptr 0 0 0), (7, .sl 1 0 p.2.length), (8, .sl 6 0 nt), (11, .sl 2 0 out.length), (45, intsV sc), (46, SV.i sc.length), (47, SV.i k)], [some (machBlk q), some (intsB p.2), some (evB out), some (.cells 83 3 [callV cs, SV.i nx, .ptr 4 0 0]), some (thrYB 7 C p.1), none, none, some (intsB p.1.told)], [0, 1, 2, 3, 4, 5, 6, 143], .inl ⟨hov, rfl, rfl, rfl⟩, rfl, rfl, ⟨rfl, rfl, rfl, rfl, rfl, rfl, rfl, trivial⟩, ⟨rfl, rfl, rfl, rfl, rfl, rfl, trivial⟩⟩
    · skip
      exact ⟨[(2, .ptr 0 0 0), (7, .sl 1 0 p.2.length), (8, .sl 6 0 nt), (11, .sl 7 0 (out ++ [(Ev.mk step j (nx - 1) true p.1.e p.1.told)]).length), (45, intsV sc), (46, SV.i sc.length), (47, SV.i k)], [some (machBlk q), some (intsB p.2), none, some (.cells 83 3 [callV cs, SV.i nx, .d (.val (.pointer none))]), none, none, none, some (evB (out ++ [(Ev.mk step j (nx - 1) true p.1.e p.1.told)]))], [0, 1, 2, 3, 4, 5, 6, 143], .inr ⟨hov, rfl, rfl, rfl⟩, rfl, rfl, ⟨rfl, rfl, rfl, rfl, rfl, rfl, rfl, trivial⟩, ⟨rfl, rfl, rfl, rfl, trivial⟩⟩

end Go.Proofs.YtnnjobmiepnedaaDoor.Nice
