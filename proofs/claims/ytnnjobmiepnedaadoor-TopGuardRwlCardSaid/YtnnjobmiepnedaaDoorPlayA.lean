/- A thread that is in no call. -/
import Derived.Test.YtnnjobmiepnedaaDoorPlayB
namespace Go.Proofs.YtnnjobmiepnedaaDoor.Nice
open Go
set_option linter.unusedVariables false
set_option linter.unusedSimpArgs false
set_option maxRecDepth 100000
set_option maxHeartbeats 4000000

theorem mach_calls {q : Mach} (hq : machB q = true) {j : Nat} (hj : j < q.ts.length) (n : Int) (h0 : 0 ≤ n) (h1 : n < (q.ts.getD j []).length) : 0 ≤ (callAt q j n).code ∧ (callAt q j n).code < q.cs.length ∧ (callAt q j n).args.length ≤ 8 ∧ mayB (codeOf q j n) = true := by
  unfold machB at hq
  rw [Bool.and_eq_true, Bool.and_eq_true, List.all_eq_true, List.all_eq_true] at hq
  obtain ⟨_, hc, ht⟩ := hq
  have h2 := ht _ (List.getElem_mem hj)
  rw [getG hj] at h1
  unfold thrB at h2
  rw [Bool.and_eq_true, Bool.not_eq_true', List.any_eq_false] at h2
  have hn : n.toNat < q.ts[j].length := by omega
  have h3 := h2.2 _ (List.getElem_mem hn)
  have e : callAt q j n = q.ts[j][n.toNat] := by unfold callAt; rw [getG hj, getG hn]
  unfold badB at h3
  simp only [Bool.or_eq_true, decide_eq_true_eq, not_or] at h3
  rw [← e] at h3
  have hlt : (callAt q j n).code.toNat < q.cs.length := by omega
  refine ⟨by omega, by omega, by omega, ?_⟩
  unfold codeOf
  rw [getG hlt]; exact hc _ (List.getElem_mem hlt)

theorem playA (q : Mach) (hq : machB q = true) (ws : List Int) (out : List Ev) (nx : Int) (nt : Nat) (sc : List Int) (k : Nat) (step : Int) (j : Nat) (hj : j < q.ts.length) (hws : ws.length ≤ 200) (hout : out.length ≤ 19999) (hnx : 0 ≤ nx ∧ nx ≤ 20) (p : Thr × List Int) (hp : vstep (codeOf q j nx) ws (vnew (codeOf q j nx) (callAt q j nx).args) = p) : W ⟨Tryd.prog, 161, 5, GV⟩ (codeAt [1, 1, 1, 1, 1, 1, 0, 1, 0, 0, 1, 1, 0, 0, 1, 1] (Tryd.f20.body.getD .skip)) (fun e σ' => ∃ tl' hout π', (fun e tl hout => (¬ nx < (q.ts.getD j []).length ∧ e = .exit 4 ∧ tl = [(2, .ptr 0 0 0), (7, .sl 1 0 ws.length), (8, .sl 4 0 nt), (11, .sl 2 0 out.length), (45, intsV sc), (46, SV.i sc.length), (47, SV.i k)] ∧ hout = [some (machBlk q), some (intsB ws), some (evB out), some (.cells 83 3 [callV (q.ts.getD j []), SV.i nx, .d (.val (.pointer none))]), none]) ∨ (nx < (q.ts.getD j []).length ∧ p.1.ov = false ∧ e = .normal ∧ tl = [(2, .ptr 0 0 0), (7, .sl 1 0 p.2.length), (8, .sl 4 0 nt), (11, .sl 5 0 (out ++ [(Ev.mk step j nx false 0 [])]).length), (45, intsV sc), (46, SV.i sc.length), (47, SV.i k)] ∧ hout = [some (machBlk q), some (intsB p.2), none, some (.cells 83 3 [callV (q.ts.getD j []), SV.i (nx + 1), .ptr 6 0 0]), none, some (evB (out ++ [(Ev.mk step j nx false 0 [])])), some (thrYB 7 (codeOf q j nx) p.1), some (intsB p.1.told)]) ∨ (nx < (q.ts.getD j []).length ∧ p.1.ov = true ∧ e = .normal ∧ tl = [(2, .ptr 0 0 0), (7, .sl 1 0 p.2.length), (8, .sl 4 0 nt), (11, .sl 5 0 ((out ++ [(Ev.mk step j nx false 0 [])]) ++ [(Ev.mk step j (nx + 1 - 1) true p.1.e p.1.told)]).length), (45, intsV sc), (46, SV.i sc.length), (47, SV.i k)] ∧ hout = [some (machBlk q), some (intsB p.2), none, some (.cells 83 3 [callV (q.ts.getD j []), SV.i (nx + 1), .d (.val (.pointer none))]), none, some (evB ((out ++ [(Ev.mk step j nx false 0 [])]) ++ [(Ev.mk step j (nx + 1 - 1) true p.1.e p.1.told)]))])) e tl' hout ∧ okF 4 1 hout = true ∧ Sub ⟨Tryd.prog, 161, 5, GV⟩ π' σ' tl' hout) ⟨tOf [(2, .ptr 0 0 0), (7, .sl 1 0 ws.length), (8, .sl 4 0 nt), (11, .sl 2 0 out.length), (12, SV.i step), (13, SV.i j), (14, .ptr 3 0 0), (45, intsV sc), (46, SV.i sc.length), (47, SV.i k)], hOf ([some (machBlk q), some (intsB ws), some (evB out), some (.cells 83 3 [callV (q.ts.getD j []), SV.i nx, .d (.val (.pointer none))])]), 5⟩ := by
  have hcl := mach_calls hq hj
  refine W_seq ?_
  refine rd1 rfl ?_
  refine d1 56 5 1 rfl rfl rfl rfl rfl rfl trivial ?_
  refine d1 57 13 2 rfl rfl rfl rfl rfl rfl trivial ?_
  refine d1 58 21 3 rfl rfl rfl rfl rfl rfl trivial ?_
  refine d1 59 29 4 rfl rfl rfl rfl rfl rfl (by first | trivial | omega) ?_
  refine dNilP 60 37 5 rfl rfl rfl rfl rfl rfl rfl rfl ?_
  refine d1 61 45 6 rfl rfl rfl rfl rfl rfl trivial ?_
  refine g1 5 true 61 62 7 rfl rfl rfl rfl rfl ?_
  refine d1 62 53 7 rfl rfl rfl rfl rfl rfl trivial ?_
  refine g1 5 true 61 63 8 rfl rfl rfl rfl rfl ?_
  refine d1 63 61 8 rfl rfl rfl rfl rfl rfl trivial ?_
  refine g1 5 true 61 64 9 rfl rfl rfl rfl rfl ?_
  refine d1 64 69 9 rfl rfl rfl rfl rfl rfl trivial ?_
  refine g1 5 true 61 65 10 rfl rfl rfl rfl rfl ?_
  refine d1 65 77 10 rfl rfl rfl rfl rfl rfl (by first | trivial | omega) ?_
  refine g1 5 true 61 66 11 rfl rfl rfl rfl rfl ?_
  refine d1 66 85 11 rfl rfl rfl rfl rfl rfl trivial ?_
  refine g1 5 true 61 67 12 rfl rfl rfl rfl rfl ?_
  refine d1 67 93 12 rfl rfl rfl rfl rfl rfl trivial ?_
  refine g1 5 true 61 68 13 rfl rfl rfl rfl rfl ?_
  refine d1 68 101 13 rfl rfl rfl rfl rfl rfl trivial ?_
  refine g1 5 true 61 69 14 rfl rfl rfl rfl rfl ?_
  refine d1 69 109 14 rfl rfl rfl rfl rfl rfl (by first | trivial | omega) ?_
  refine g1 5 true 61 70 15 rfl rfl rfl rfl rfl ?_
  refine d1 70 117 15 rfl rfl rfl rfl rfl rfl (by first | trivial | omega) ?_
  refine g1 5 true 61 71 16 rfl rfl rfl rfl rfl ?_
  refine d1 71 125 16 rfl rfl rfl rfl rfl rfl (by first | trivial | omega) ?_
  refine d1 72 133 17 rfl rfl rfl rfl rfl rfl trivial ?_
  refine de1 141 rfl (by kernel_rfl) ?_
  refine keep [2, 7, 8, 11, 12, 13, 14, 45, 46, 47, 72] rfl ?_
  refine q1 rfl (fun hc19 => ?_) (fun hc19 => ?_)
  · skip
    try simp only [cs, ne_eq] at hc19
    have hlt := hc19
    obtain ⟨hc1, hc2, hc3, hcode⟩ := hcl nx hnx.1 hlt
    have hc12 : 0 ≤ ((q.ts.getD j []).getD nx.toNat default).code ∧ ((q.ts.getD j []).getD nx.toNat default).code < q.cs.length := ⟨hc1, hc2⟩
    refine rd1 rfl ?_
    refine d1 73 141 1 rfl rfl rfl rfl rfl rfl trivial ?_
    refine d1 74 149 2 rfl rfl rfl rfl rfl rfl trivial ?_
    refine d1 75 157 3 rfl rfl rfl rfl rfl rfl trivial ?_
    refine d1 76 165 4 rfl rfl rfl rfl rfl rfl (by first | trivial | omega) ?_
    refine d1 77 173 5 rfl rfl rfl rfl rfl rfl trivial ?_
    refine d1 78 181 6 rfl rfl rfl rfl rfl rfl trivial ?_
    refine d1 79 189 7 rfl rfl rfl rfl rfl rfl trivial ?_
    refine d1 80 197 8 rfl rfl rfl rfl rfl rfl (by first | trivial | omega) ?_
    refine d1 81 205 9 rfl rfl rfl rfl rfl rfl (by omega) ?_
    refine d1 82 213 10 rfl rfl rfl rfl rfl rfl (by first | trivial | omega) ?_
    refine d1 15 221 11 rfl rfl rfl rfl rfl rfl trivial ?_
    refine d0 229 12 rfl rfl rfl rfl rfl (by first | trivial | omega) ?_
    refine de1 237 rfl (by kernel_rfl) ?_
    refine keep [2, 7, 8, 11, 12, 13, 14, 15, 45, 46, 47] rfl ?_
    refine rd1 rfl ?_
    refine d1 83 237 1 rfl rfl rfl rfl rfl rfl trivial ?_
    refine d1 84 245 2 rfl rfl rfl rfl rfl rfl trivial ?_
    refine d1 85 253 3 rfl rfl rfl rfl rfl rfl (by first | trivial | omega) ?_
    refine d1 86 261 4 rfl rfl rfl rfl rfl rfl trivial ?_
    refine d1 87 269 5 rfl rfl rfl rfl rfl rfl (by first | trivial | omega) ?_
    refine d1 88 277 6 rfl rfl rfl rfl rfl rfl (by omega) ?_
    refine d1 89 285 7 rfl rfl rfl rfl rfl rfl (by omega) ?_
    refine d1 90 293 8 rfl rfl rfl rfl rfl rfl trivial ?_
    refine d1 91 301 9 rfl rfl rfl rfl rfl rfl (by first | trivial | omega) ?_
    refine dc1 (begin_any (codeOf q j nx) (callAt q j nx).args (by omega)) [] [309] 92 309 10 rfl rfl rfl rfl rfl rfl rfl rfl Tryd.func44 rfl rfl rfl rfl trivial rfl rfl ?_
    refine d1 93 317 11 rfl rfl rfl rfl rfl rfl trivial ?_
    refine d1 94 325 12 rfl rfl rfl rfl rfl rfl trivial ?_
    refine d0 333 13 rfl rfl rfl rfl rfl (by first | trivial | omega) ?_
    refine de1 341 rfl (by kernel_rfl) ?_
    refine keep [2, 7, 8, 11, 12, 13, 14, 45, 46, 47] rfl ?_
    refine r1 ?_
    refine s1 95 341 1 rfl rfl rfl rfl rfl rfl trivial ?_
    refine s1 96 349 2 rfl rfl rfl rfl rfl rfl trivial ?_
    refine s1 97 357 3 rfl rfl rfl rfl rfl rfl trivial ?_
    refine s1 98 365 4 rfl rfl rfl rfl rfl rfl trivial ?_
    refine s1 99 373 5 rfl rfl rfl rfl rfl rfl trivial ?_
    refine s1 100 381 6 rfl rfl rfl rfl rfl rfl trivial ?_
    refine s1 101 389 7 rfl rfl rfl rfl rfl rfl (by first | trivial | omega) ?_
    refine s1 102 397 8 rfl rfl rfl rfl rfl rfl trivial ?_
    refine s1 103 405 9 rfl rfl rfl rfl rfl rfl trivial ?_
    refine s1 104 413 10 rfl rfl rfl rfl rfl rfl ⟨Nat.le_refl _, trivial, (by show (out.length + 1) * 64 ≤ 140737488355328; omega), (by simp only [maxLen]; omega)⟩ ?_
    refine s1 11 421 11 rfl rfl rfl rfl rfl rfl trivial ?_
    refine e1 429 rfl ?_
    refine keep [2, 7, 8, 11, 12, 13, 14, 45, 46, 47] rfl ?_
    refine r0 ?_
    refine s1 105 429 1 rfl rfl rfl rfl rfl rfl trivial ?_
    refine s1 106 437 2 rfl rfl rfl rfl rfl rfl trivial ?_
    refine s1 107 445 3 rfl rfl rfl rfl rfl rfl trivial ?_
    refine s1 108 453 4 rfl rfl rfl rfl rfl rfl (by first | trivial | omega) ?_
    refine sA 109 461 5 rfl rfl rfl rfl rfl rfl rfl rfl rfl (by unfold inRange; omega) ?_
    refine s1 110 469 6 rfl rfl rfl rfl rfl rfl trivial ?_
    refine s1 111 477 7 rfl rfl rfl rfl rfl rfl trivial ?_
    refine s0 485 8 rfl rfl rfl rfl rfl (by first | trivial | omega) ?_
    refine e1 493 rfl ?_
    refine tn ?_
    refine cghostly 309 26 3 1 (intsF []) rfl rfl rfl ?_
    refine rowsw 413 (out ++ [(Ev.mk step j nx false 0 [])]).length (evF (out ++ [(Ev.mk step j nx false 0 [])])) rfl (by simp) (fun i c hi hc M v h => ev_cat0 out _ _ _ i c hi hc M v h) ?_
    refine cval 11 (.sl 413 0 (out ++ [(Ev.mk step j nx false 0 [])]).length) rfl (by simp) ?_
    refine W_focus [0, 1, 413, 3, 309, 493] [4] [(2, .ptr 0 0 0), (7, .sl 1 0 ws.length), (8, .sl 6 0 nt), (11, .sl 2 0 (out ++ [(Ev.mk step j nx false 0 [])]).length), (12, SV.i step), (13, SV.i j), (14, .ptr 3 0 0), (45, intsV sc), (46, SV.i sc.length), (47, SV.i k)] [machBlk q, intsB ws, evB (out ++ [(Ev.mk step j nx false 0 [])]), .cells 83 3 [callV (q.ts.getD j []), SV.i (nx + 1), .ptr 4 0 0], thrYB 5 (codeOf q j nx) (vnew (codeOf q j nx) (callAt q j nx).args), intsB (vnew (codeOf q j nx) (callAt q j nx).args).told] (playB q ws (out ++ [(Ev.mk step j nx false 0 [])]) (q.ts.getD j []) (nx + 1) (codeOf q j nx) (vnew (codeOf q j nx) (callAt q j nx).args) nt sc k step j ⟨hcode, vnew_ok⟩ hws (by simp; omega) (by omega) p hp) rfl ⟨rfl, rfl, rfl, rfl, rfl, rfl, rfl, rfl, rfl, rfl, trivial⟩ ⟨rfl, rfl, rfl, rfl, rfl, rfl, trivial⟩ ?_
    rintro e tl' hout (⟨hov, rfl, rfl, rfl⟩ | ⟨hov, rfl, rfl, rfl⟩) -
    · skip
      exact ⟨[(2, .ptr 0 0 0), (7, .sl 1 0 p.2.length), (8, .sl 4 0 nt), (11, .sl 5 0 (out ++ [(Ev.mk step j nx false 0 [])]).length), (45, intsV sc), (46, SV.i sc.length), (47, SV.i k)], [some (machBlk q), some (intsB p.2), none, some (.cells 83 3 [callV (q.ts.getD j []), SV.i (nx + 1), .ptr 6 0 0]), none, some (evB (out ++ [(Ev.mk step j nx false 0 [])])), some (thrYB 7 (codeOf q j nx) p.1), some (intsB p.1.told)], [0, 1, 2, 3, 4, 413, 309, 501], .inr (.inl ⟨hlt, hov, rfl, rfl, rfl⟩), rfl, rfl, ⟨rfl, rfl, rfl, rfl, rfl, rfl, rfl, trivial⟩, ⟨rfl, rfl, rfl, rfl, rfl, rfl, trivial⟩⟩
    · skip
      exact ⟨[(2, .ptr 0 0 0), (7, .sl 1 0 p.2.length), (8, .sl 4 0 nt), (11, .sl 5 0 ((out ++ [(Ev.mk step j nx false 0 [])]) ++ [(Ev.mk step j (nx + 1 - 1) true p.1.e p.1.told)]).length), (45, intsV sc), (46, SV.i sc.length), (47, SV.i k)], [some (machBlk q), some (intsB p.2), none, some (.cells 83 3 [callV (q.ts.getD j []), SV.i (nx + 1), .d (.val (.pointer none))]), none, some (evB ((out ++ [(Ev.mk step j nx false 0 [])]) ++ [(Ev.mk step j (nx + 1 - 1) true p.1.e p.1.told)]))], [0, 1, 2, 3, 4, 501], .inr (.inr ⟨hlt, hov, rfl, rfl, rfl⟩), rfl, rfl, ⟨rfl, rfl, rfl, rfl, rfl, rfl, rfl, trivial⟩, ⟨rfl, rfl, rfl, rfl, trivial⟩⟩
  · skip
    try simp only [cs, ne_eq] at hc19
    refine W_skip ?_
    refine tn ?_
    refine W_seq ?_
    refine r1 ?_
    refine s1 112 141 1 rfl rfl rfl rfl rfl rfl trivial ?_
    refine s1 113 149 2 rfl rfl rfl rfl rfl rfl trivial ?_
    refine s1 114 157 3 rfl rfl rfl rfl rfl rfl trivial ?_
    refine s1 115 165 4 rfl rfl rfl rfl rfl rfl (by first | trivial | omega) ?_
    refine sNilP 116 173 5 rfl rfl rfl rfl rfl rfl rfl rfl ?_
    refine e1 181 rfl ?_
    refine keep [2, 7, 8, 11, 12, 13, 14, 45, 46, 47, 116] rfl ?_
    refine q1 rfl (fun hc24 => ?_) (fun hc24 => ?_)
    · skip
      try simp only [cs, ne_eq] at hc24
      refine W_exit ?_
      refine tx ?_
      exact ⟨[(2, .ptr 0 0 0), (7, .sl 1 0 ws.length), (8, .sl 4 0 nt), (11, .sl 2 0 out.length), (45, intsV sc), (46, SV.i sc.length), (47, SV.i k)], [some (machBlk q), some (intsB ws), some (evB out), some (.cells 83 3 [callV (q.ts.getD j []), SV.i nx, .d (.val (.pointer none))]), none], [0, 1, 2, 3, 4], .inl ⟨by omega, rfl, rfl, rfl⟩, rfl, rfl, ⟨rfl, rfl, rfl, rfl, rfl, rfl, rfl, trivial⟩, ⟨rfl, rfl, rfl, rfl, trivial⟩⟩
    · skip
      exact absurd hc24 (by decide)

end Go.Proofs.YtnnjobmiepnedaaDoor.Nice
