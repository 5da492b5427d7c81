/- One step of a thread in run.Play. -/
import Derived.Test.YtnnjobmiepnedaaDoorZMVr
namespace Go.Proofs.YtnnjobmiepnedaaDoor.Nice
open Go
set_option linter.unusedVariables false
set_option linter.unusedSimpArgs false
set_option maxRecDepth 100000
set_option maxHeartbeats 4000000

theorem playB (q : Mach) (ws : List Int) (out : List Ev) (cs : List CallD) (nx : Int) (C : List Ins) (t : Thr) (nt : Nat) (sc : List Int) (k : Nat) (step j : Int) (hl : Live ws.length C t ws) (hws : ws.length ≤ 200) (hout : out.length ≤ 20000) (hnx : 1 ≤ nx ∧ nx ≤ 1000) (p : Thr × List Int) (hp : vstep C ws t = p) : W ⟨Tryd.prog, 161, 7, GV⟩ (codeAt [1, 1, 1, 1, 1, 1, 0, 1, 0, 0, 1, 1, 0, 0, 1, 1, 1] (Tryd.f20.body.getD .skip)) (fun e σ' => ∃ tl' hout π', (fun e tl hout => (p.1.ov = false ∧ e = .normal ∧ tl = [(2, .ptr 0 0 0), (7, .sl 1 0 p.2.length), (8, .sl 6 0 nt), (11, .sl 2 0 out.length), (45, intsV sc), (46, SV.i sc.length), (47, SV.i k)] ∧ hout = [some (machBlk q), some (intsB p.2), some (evB out), some (.cells 83 3 [callV cs, SV.i nx, .ptr 4 0 0]), some (thrYB 7 C p.1), none, none, some (intsB p.1.told)]) ∨ (p.1.ov = true ∧ e = .normal ∧ tl = [(2, .ptr 0 0 0), (7, .sl 1 0 p.2.length), (8, .sl 6 0 nt), (11, .sl 7 0 (out ++ [(Ev.mk step j (nx - 1) true p.1.e p.1.told)]).length), (45, intsV sc), (46, SV.i sc.length), (47, SV.i k)] ∧ hout = [some (machBlk q), some (intsB p.2), none, some (.cells 83 3 [callV cs, SV.i nx, .d (.val (.pointer none))]), none, none, none, some (evB (out ++ [(Ev.mk step j (nx - 1) true p.1.e p.1.told)]))])) e tl' hout ∧ okF 6 1 hout = true ∧ Sub ⟨Tryd.prog, 161, 7, GV⟩ π' σ' tl' hout) ⟨tOf [(2, .ptr 0 0 0), (7, .sl 1 0 ws.length), (8, .sl 6 0 nt), (11, .sl 2 0 out.length), (12, SV.i step), (13, SV.i j), (14, .ptr 3 0 0), (45, intsV sc), (46, SV.i sc.length), (47, SV.i k)], hOf ([some (machBlk q), some (intsB ws), some (evB out), some (.cells 83 3 [callV cs, SV.i nx, .ptr 4 0 0]), some (thrYB 5 C t), some (intsB t.told)]), 7⟩ := by
  have hlen := (vstep_ok hl.c hl.ok).ws
  have htd := (vstep_ok hl.c hl.ok).told
  rw [hp] at hlen htd
  refine W_seq ?_
  refine r1 ?_
  refine s1 112 7 1 rfl rfl rfl rfl rfl rfl trivial ?_
  refine s1 113 15 2 rfl rfl rfl rfl rfl rfl trivial ?_
  refine s1 114 23 3 rfl rfl rfl rfl rfl rfl trivial ?_
  refine s1 115 31 4 rfl rfl rfl rfl rfl rfl (by first | trivial | omega) ?_
  refine sNilP 116 39 5 rfl rfl rfl rfl rfl rfl rfl rfl ?_
  refine e1 47 rfl ?_
  refine keep [2, 7, 8, 11, 12, 13, 14, 45, 46, 47, 116] rfl ?_
  refine q1 rfl (fun hc24 => ?_) (fun hc24 => ?_)
  · skip
    exact absurd hc24 (by decide)
  try simp only [cs, ne_eq] at hc24
  refine W_skip ?_
  refine tn ?_
  refine r1 ?_
  refine s1 117 47 1 rfl rfl rfl rfl rfl rfl trivial ?_
  refine s1 118 55 2 rfl rfl rfl rfl rfl rfl trivial ?_
  refine s1 119 63 3 rfl rfl rfl rfl rfl rfl trivial ?_
  refine s1 120 71 4 rfl rfl rfl rfl rfl rfl (by first | trivial | omega) ?_
  refine s1 121 79 5 rfl rfl rfl rfl rfl rfl trivial ?_
  refine c1 (step_any C t ws hl.c hl.ok.pc hws hl.ok.told p hp) [4, 5, 1] [4, 5, 1, 87] 122 87 6 rfl rfl rfl rfl rfl rfl rfl rfl Tryd.func45 rfl rfl rfl rfl ⟨rfl, rfl, rfl, trivial⟩ rfl rfl ?_
  refine e1 95 rfl ?_
  refine keep [2, 7, 8, 11, 12, 13, 14, 45, 46, 47] rfl ?_
  refine cval 7 (.sl 1 0 p.2.length) rfl (by rw [hlen]) ?_
  refine r1 ?_
  refine s1 123 95 1 rfl rfl rfl rfl rfl rfl trivial ?_
  refine s1 124 103 2 rfl rfl rfl rfl rfl rfl trivial ?_
  refine s1 125 111 3 rfl rfl rfl rfl rfl rfl trivial ?_
  refine s1 126 119 4 rfl rfl rfl rfl rfl rfl (by first | trivial | omega) ?_
  refine s1 127 127 5 rfl rfl rfl rfl rfl rfl trivial ?_
  refine s1 128 135 6 rfl rfl rfl rfl rfl rfl trivial ?_
  refine s1 129 143 7 rfl rfl rfl rfl rfl rfl (by first | trivial | omega) ?_
  refine e1 151 rfl ?_
  refine keep [2, 7, 8, 11, 12, 13, 14, 45, 46, 47, 129] rfl ?_
  refine q1 rfl (fun hc26 => ?_) (fun hc26 => ?_)
  · skip
    try simp only [cs, ne_eq] at hc26
    refine cfreeze 4 26 87 p.1.told.length rfl rfl rfl (Nat.le_refl _) rfl ?_
    refine rd1 rfl ?_
    refine d1 130 151 1 rfl rfl rfl rfl rfl rfl trivial ?_
    refine d1 131 159 2 rfl rfl rfl rfl rfl rfl trivial ?_
    refine d1 132 167 3 rfl rfl rfl rfl rfl rfl trivial ?_
    refine d1 133 175 4 rfl rfl rfl rfl rfl rfl trivial ?_
    refine d1 134 183 5 rfl rfl rfl rfl rfl rfl trivial ?_
    refine d1 135 191 6 rfl rfl rfl rfl rfl rfl trivial ?_
    refine d1 136 199 7 rfl rfl rfl rfl rfl rfl (by first | trivial | omega) ?_
    refine dA 137 207 8 rfl rfl rfl rfl rfl rfl rfl rfl rfl (by unfold inRange; omega) ?_
    refine d1 138 215 9 rfl rfl rfl rfl rfl rfl trivial ?_
    refine d1 139 223 10 rfl rfl rfl rfl rfl rfl trivial ?_
    refine d1 140 231 11 rfl rfl rfl rfl rfl rfl trivial ?_
    refine d1 141 239 12 rfl rfl rfl rfl rfl rfl (by first | trivial | omega) ?_
    refine d1 142 247 13 rfl rfl rfl rfl rfl rfl trivial ?_
    refine d1 143 255 14 rfl rfl rfl rfl rfl rfl trivial ?_
    refine d1 144 263 15 rfl rfl rfl rfl rfl rfl (by first | trivial | omega) ?_
    refine d1 145 271 16 rfl rfl rfl rfl rfl rfl trivial ?_
    refine d1 146 279 17 rfl rfl rfl rfl rfl rfl trivial ?_
    refine d1 147 287 18 rfl rfl rfl rfl rfl rfl trivial ?_
    refine d1 148 295 19 rfl rfl rfl rfl rfl rfl (by first | trivial | omega) ?_
    refine d1 149 303 20 rfl rfl rfl rfl rfl rfl trivial ?_
    refine d1 150 311 21 rfl rfl rfl rfl rfl rfl trivial ?_
    refine d1 151 319 22 rfl rfl rfl rfl rfl rfl (by first | trivial | omega) ?_
    refine d1 152 327 23 rfl rfl rfl rfl rfl rfl trivial ?_
    refine d1 153 335 24 rfl rfl rfl rfl rfl rfl trivial ?_
    refine d1 154 343 25 rfl rfl rfl rfl rfl rfl ⟨Nat.le_refl _, trivial, (by show (out.length + 1) * 64 ≤ 140737488355328; omega), (by simp only [maxLen]; omega)⟩ ?_
    refine d1 11 351 26 rfl rfl rfl rfl rfl rfl trivial ?_
    refine de1 359 rfl (by kernel_rfl) ?_
    refine keep [2, 7, 8, 11, 14, 45, 46, 47] rfl ?_
    refine rowsc 343 (out ++ [(Ev.mk step j (nx - 1) true p.1.e p.1.told)]).length (evF (out ++ [(Ev.mk step j (nx - 1) true p.1.e p.1.told)])) rfl (by simp) (fun i c hi hc => ev_cat out _ _ _ _ _ _ i c hi hc) ?_
    refine cval 11 (.sl 343 0 (out ++ [(Ev.mk step j (nx - 1) true p.1.e p.1.told)]).length) rfl (by simp) ?_
    refine r0 ?_
    refine s1 155 359 1 rfl rfl rfl rfl rfl rfl trivial ?_
    refine s1 156 367 2 rfl rfl rfl rfl rfl rfl trivial ?_
    refine s1 157 375 3 rfl rfl rfl rfl rfl rfl trivial ?_
    refine s0 383 4 rfl rfl rfl rfl rfl (by first | trivial | omega) ?_
    refine e1 391 rfl ?_
    exact ⟨[(2, .ptr 0 0 0), (7, .sl 1 0 p.2.length), (8, .sl 6 0 nt), (11, .sl 7 0 (out ++ [(Ev.mk step j (nx - 1) true p.1.e p.1.told)]).length), (45, intsV sc), (46, SV.i sc.length), (47, SV.i k)], [some (machBlk q), some (intsB p.2), none, some (.cells 83 3 [callV cs, SV.i nx, .d (.val (.pointer none))]), none, none, none, some (evB (out ++ [(Ev.mk step j (nx - 1) true p.1.e p.1.told)]))], [0, 1, 2, 3, 4, 5, 6, 343], .inr ⟨hc26, rfl, rfl, rfl⟩, rfl, rfl, ⟨rfl, rfl, rfl, rfl, rfl, rfl, rfl, trivial⟩, ⟨rfl, rfl, rfl, rfl, trivial⟩⟩
  try simp only [cs, ne_eq] at hc26
  refine W_skip ?_
  exact ⟨[(2, .ptr 0 0 0), (7, .sl 1 0 p.2.length), (8, .sl 6 0 nt), (11, .sl 2 0 out.length), (45, intsV sc), (46, SV.i sc.length), (47, SV.i k)], [some (machBlk q), some (intsB p.2), some (evB out), some (.cells 83 3 [callV cs, SV.i nx, .ptr 4 0 0]), some (thrYB 7 C p.1), none, none, some (intsB p.1.told)], [0, 1, 2, 3, 4, 5, 6, 87], .inl ⟨hc26, rfl, rfl, rfl⟩, rfl, rfl, ⟨rfl, rfl, rfl, rfl, rfl, rfl, rfl, trivial⟩, ⟨rfl, rfl, rfl, rfl, rfl, rfl, trivial⟩⟩

end Go.Proofs.YtnnjobmiepnedaaDoor.Nice

/- A thread that is in no call. -/
namespace Go.Proofs.YtnnjobmiepnedaaDoor.Nice
open Go
set_option linter.unusedVariables false
set_option linter.unusedSimpArgs false
set_option maxRecDepth 100000
set_option maxHeartbeats 4000000

theorem mach_calls {q : Mach} (hq : machB q = true) {j : Nat} (hj : j < q.ts.length) (n : Int) (h0 : 0 ≤ n) (h1 : n < (q.ts.getD j []).length) : 0 ≤ (callAt q j n).code ∧ (callAt q j n).code < q.cs.length ∧ (callAt q j n).args.length ≤ 8 ∧ mayB (codeOf q j n) = true := by
  unfold machB at hq
  rw [Bool.and_eq_true, Bool.and_eq_true, List.all_eq_true, List.all_eq_true] at hq
  obtain ⟨_, hc, ht⟩ := hq
  have h2 := ht _ (List.getElem_mem hj)
  rw [getG hj] at h1
  unfold thrB at h2
  rw [Bool.and_eq_true, Bool.not_eq_true', List.any_eq_false] at h2
  have hn : n.toNat < q.ts[j].length := by omega
  have h3 := h2.2 _ (List.getElem_mem hn)
  have e : callAt q j n = q.ts[j][n.toNat] := by unfold callAt; rw [getG hj, getG hn]
  unfold badB at h3
  simp only [Bool.or_eq_true, decide_eq_true_eq, not_or] at h3
  rw [← e] at h3
  have hlt : (callAt q j n).code.toNat < q.cs.length := by omega
  refine ⟨by omega, by omega, by omega, ?_⟩
  unfold codeOf
  rw [getG hlt]; exact hc _ (List.getElem_mem hlt)

theorem playA (q : Mach) (hq : machB q = true) (ws : List Int) (out : List Ev) (nx : Int) (nt : Nat) (sc : List Int) (k : Nat) (step : Int) (j : Nat) (hj : j < q.ts.length) (hws : ws.length ≤ 200) (hout : out.length ≤ 19999) (hnx : 0 ≤ nx ∧ nx ≤ 20) (p : Thr × List Int) (hp : vstep (codeOf q j nx) ws (vnew (codeOf q j nx) (callAt q j nx).args) = p) : W ⟨Tryd.prog, 161, 5, GV⟩ (codeAt [1, 1, 1, 1, 1, 1, 0, 1, 0, 0, 1, 1, 0, 0, 1, 1] (Tryd.f20.body.getD .skip)) (fun e σ' => ∃ tl' hout π', (fun e tl hout => (¬ nx < (q.ts.getD j []).length ∧ e = .exit 4 ∧ tl = [(2, .ptr 0 0 0), (7, .sl 1 0 ws.length), (8, .sl 4 0 nt), (11, .sl 2 0 out.length), (45, intsV sc), (46, SV.i sc.length), (47, SV.i k)] ∧ hout = [some (machBlk q), some (intsB ws), some (evB out), some (.cells 83 3 [callV (q.ts.getD j []), SV.i nx, .d (.val (.pointer none))]), none]) ∨ (nx < (q.ts.getD j []).length ∧ p.1.ov = false ∧ e = .normal ∧ tl = [(2, .ptr 0 0 0), (7, .sl 1 0 p.2.length), (8, .sl 4 0 nt), (11, .sl 5 0 (out ++ [(Ev.mk step j nx false 0 [])]).length), (45, intsV sc), (46, SV.i sc.length), (47, SV.i k)] ∧ hout = [some (machBlk q), some (intsB p.2), none, some (.cells 83 3 [callV (q.ts.getD j []), SV.i (nx + 1), .ptr 6 0 0]), none, some (evB (out ++ [(Ev.mk step j nx false 0 [])])), some (thrYB 7 (codeOf q j nx) p.1), some (intsB p.1.told)]) ∨ (nx < (q.ts.getD j []).length ∧ p.1.ov = true ∧ e = .normal ∧ tl = [(2, .ptr 0 0 0), (7, .sl 1 0 p.2.length), (8, .sl 4 0 nt), (11, .sl 5 0 ((out ++ [(Ev.mk step j nx false 0 [])]) ++ [(Ev.mk step j (nx + 1 - 1) true p.1.e p.1.told)]).length), (45, intsV sc), (46, SV.i sc.length), (47, SV.i k)] ∧ hout = [some (machBlk q), some (intsB p.2), none, some (.cells 83 3 [callV (q.ts.getD j []), SV.i (nx + 1), .d (.val (.pointer none))]), none, some (evB ((out ++ [(Ev.mk step j nx false 0 [])]) ++ [(Ev.mk step j (nx + 1 - 1) true p.1.e p.1.told)]))])) e tl' hout ∧ okF 4 1 hout = true ∧ Sub ⟨Tryd.prog, 161, 5, GV⟩ π' σ' tl' hout) ⟨tOf [(2, .ptr 0 0 0), (7, .sl 1 0 ws.length), (8, .sl 4 0 nt), (11, .sl 2 0 out.length), (12, SV.i step), (13, SV.i j), (14, .ptr 3 0 0), (45, intsV sc), (46, SV.i sc.length), (47, SV.i k)], hOf ([some (machBlk q), some (intsB ws), some (evB out), some (.cells 83 3 [callV (q.ts.getD j []), SV.i nx, .d (.val (.pointer none))])]), 5⟩ := by
  have hcl := mach_calls hq hj
  refine W_seq ?_
  refine rd1 rfl ?_
  refine d1 56 5 1 rfl rfl rfl rfl rfl rfl trivial ?_
  refine d1 57 13 2 rfl rfl rfl rfl rfl rfl trivial ?_
  refine d1 58 21 3 rfl rfl rfl rfl rfl rfl trivial ?_
  refine d1 59 29 4 rfl rfl rfl rfl rfl rfl (by first | trivial | omega) ?_
  refine dNilP 60 37 5 rfl rfl rfl rfl rfl rfl rfl rfl ?_
  refine d1 61 45 6 rfl rfl rfl rfl rfl rfl trivial ?_
  refine g1 5 true 61 62 7 rfl rfl rfl rfl rfl ?_
  refine d1 62 53 7 rfl rfl rfl rfl rfl rfl trivial ?_
  refine g1 5 true 61 63 8 rfl rfl rfl rfl rfl ?_
  refine d1 63 61 8 rfl rfl rfl rfl rfl rfl trivial ?_
  refine g1 5 true 61 64 9 rfl rfl rfl rfl rfl ?_
  refine d1 64 69 9 rfl rfl rfl rfl rfl rfl trivial ?_
  refine g1 5 true 61 65 10 rfl rfl rfl rfl rfl ?_
  refine d1 65 77 10 rfl rfl rfl rfl rfl rfl (by first | trivial | omega) ?_
  refine g1 5 true 61 66 11 rfl rfl rfl rfl rfl ?_
  refine d1 66 85 11 rfl rfl rfl rfl rfl rfl trivial ?_
  refine g1 5 true 61 67 12 rfl rfl rfl rfl rfl ?_
  refine d1 67 93 12 rfl rfl rfl rfl rfl rfl trivial ?_
  refine g1 5 true 61 68 13 rfl rfl rfl rfl rfl ?_
  refine d1 68 101 13 rfl rfl rfl rfl rfl rfl trivial ?_
  refine g1 5 true 61 69 14 rfl rfl rfl rfl rfl ?_
  refine d1 69 109 14 rfl rfl rfl rfl rfl rfl (by first | trivial | omega) ?_
  refine g1 5 true 61 70 15 rfl rfl rfl rfl rfl ?_
  refine d1 70 117 15 rfl rfl rfl rfl rfl rfl (by first | trivial | omega) ?_
  refine g1 5 true 61 71 16 rfl rfl rfl rfl rfl ?_
  refine d1 71 125 16 rfl rfl rfl rfl rfl rfl (by first | trivial | omega) ?_
  refine d1 72 133 17 rfl rfl rfl rfl rfl rfl trivial ?_
  refine de1 141 rfl (by kernel_rfl) ?_
  refine keep [2, 7, 8, 11, 12, 13, 14, 45, 46, 47, 72] rfl ?_
  refine q1 rfl (fun hc19 => ?_) (fun hc19 => ?_)
  · skip
    try simp only [cs, ne_eq] at hc19
    have hlt := hc19
    obtain ⟨hc1, hc2, hc3, hcode⟩ := hcl nx hnx.1 hlt
    have hc12 : 0 ≤ ((q.ts.getD j []).getD nx.toNat default).code ∧ ((q.ts.getD j []).getD nx.toNat default).code < q.cs.length := ⟨hc1, hc2⟩
    refine rd1 rfl ?_
    refine d1 73 141 1 rfl rfl rfl rfl rfl rfl trivial ?_
    refine d1 74 149 2 rfl rfl rfl rfl rfl rfl trivial ?_
    refine d1 75 157 3 rfl rfl rfl rfl rfl rfl trivial ?_
    refine d1 76 165 4 rfl rfl rfl rfl rfl rfl (by first | trivial | omega) ?_
    refine d1 77 173 5 rfl rfl rfl rfl rfl rfl trivial ?_
    refine d1 78 181 6 rfl rfl rfl rfl rfl rfl trivial ?_
    refine d1 79 189 7 rfl rfl rfl rfl rfl rfl trivial ?_
    refine d1 80 197 8 rfl rfl rfl rfl rfl rfl (by first | trivial | omega) ?_
    refine d1 81 205 9 rfl rfl rfl rfl rfl rfl (by omega) ?_
    refine d1 82 213 10 rfl rfl rfl rfl rfl rfl (by first | trivial | omega) ?_
    refine d1 15 221 11 rfl rfl rfl rfl rfl rfl trivial ?_
    refine d0 229 12 rfl rfl rfl rfl rfl (by first | trivial | omega) ?_
    refine de1 237 rfl (by kernel_rfl) ?_
    refine keep [2, 7, 8, 11, 12, 13, 14, 15, 45, 46, 47] rfl ?_
    refine rd1 rfl ?_
    refine d1 83 237 1 rfl rfl rfl rfl rfl rfl trivial ?_
    refine d1 84 245 2 rfl rfl rfl rfl rfl rfl trivial ?_
    refine d1 85 253 3 rfl rfl rfl rfl rfl rfl (by first | trivial | omega) ?_
    refine d1 86 261 4 rfl rfl rfl rfl rfl rfl trivial ?_
    refine d1 87 269 5 rfl rfl rfl rfl rfl rfl (by first | trivial | omega) ?_
    refine d1 88 277 6 rfl rfl rfl rfl rfl rfl (by omega) ?_
    refine d1 89 285 7 rfl rfl rfl rfl rfl rfl (by omega) ?_
    refine d1 90 293 8 rfl rfl rfl rfl rfl rfl trivial ?_
    refine d1 91 301 9 rfl rfl rfl rfl rfl rfl (by first | trivial | omega) ?_
    refine dc1 (begin_any (codeOf q j nx) (callAt q j nx).args (by omega)) [] [309] 92 309 10 rfl rfl rfl rfl rfl rfl rfl rfl Tryd.func44 rfl rfl rfl rfl trivial rfl rfl ?_
    refine d1 93 317 11 rfl rfl rfl rfl rfl rfl trivial ?_
    refine d1 94 325 12 rfl rfl rfl rfl rfl rfl trivial ?_
    refine d0 333 13 rfl rfl rfl rfl rfl (by first | trivial | omega) ?_
    refine de1 341 rfl (by kernel_rfl) ?_
    refine keep [2, 7, 8, 11, 12, 13, 14, 45, 46, 47] rfl ?_
    refine r1 ?_
    refine s1 95 341 1 rfl rfl rfl rfl rfl rfl trivial ?_
    refine s1 96 349 2 rfl rfl rfl rfl rfl rfl trivial ?_
    refine s1 97 357 3 rfl rfl rfl rfl rfl rfl trivial ?_
    refine s1 98 365 4 rfl rfl rfl rfl rfl rfl trivial ?_
    refine s1 99 373 5 rfl rfl rfl rfl rfl rfl trivial ?_
    refine s1 100 381 6 rfl rfl rfl rfl rfl rfl trivial ?_
    refine s1 101 389 7 rfl rfl rfl rfl rfl rfl (by first | trivial | omega) ?_
    refine s1 102 397 8 rfl rfl rfl rfl rfl rfl trivial ?_
    refine s1 103 405 9 rfl rfl rfl rfl rfl rfl trivial ?_
    refine s1 104 413 10 rfl rfl rfl rfl rfl rfl ⟨Nat.le_refl _, trivial, (by show (out.length + 1) * 64 ≤ 140737488355328; omega), (by simp only [maxLen]; omega)⟩ ?_
    refine s1 11 421 11 rfl rfl rfl rfl rfl rfl trivial ?_
    refine e1 429 rfl ?_
    refine keep [2, 7, 8, 11, 12, 13, 14, 45, 46, 47] rfl ?_
    refine r0 ?_
    refine s1 105 429 1 rfl rfl rfl rfl rfl rfl trivial ?_
    refine s1 106 437 2 rfl rfl rfl rfl rfl rfl trivial ?_
    refine s1 107 445 3 rfl rfl rfl rfl rfl rfl trivial ?_
    refine s1 108 453 4 rfl rfl rfl rfl rfl rfl (by first | trivial | omega) ?_
    refine sA 109 461 5 rfl rfl rfl rfl rfl rfl rfl rfl rfl (by unfold inRange; omega) ?_
    refine s1 110 469 6 rfl rfl rfl rfl rfl rfl trivial ?_
    refine s1 111 477 7 rfl rfl rfl rfl rfl rfl trivial ?_
    refine s0 485 8 rfl rfl rfl rfl rfl (by first | trivial | omega) ?_
    refine e1 493 rfl ?_
    refine tn ?_
    refine cghostly 309 26 3 1 (intsF []) rfl rfl rfl ?_
    refine rowsw 413 (out ++ [(Ev.mk step j nx false 0 [])]).length (evF (out ++ [(Ev.mk step j nx false 0 [])])) rfl (by simp) (fun i c hi hc M v h => ev_cat0 out _ _ _ i c hi hc M v h) ?_
    refine cval 11 (.sl 413 0 (out ++ [(Ev.mk step j nx false 0 [])]).length) rfl (by simp) ?_
    refine W_focus [0, 1, 413, 3, 309, 493] [4] [(2, .ptr 0 0 0), (7, .sl 1 0 ws.length), (8, .sl 6 0 nt), (11, .sl 2 0 (out ++ [(Ev.mk step j nx false 0 [])]).length), (12, SV.i step), (13, SV.i j), (14, .ptr 3 0 0), (45, intsV sc), (46, SV.i sc.length), (47, SV.i k)] [machBlk q, intsB ws, evB (out ++ [(Ev.mk step j nx false 0 [])]), .cells 83 3 [callV (q.ts.getD j []), SV.i (nx + 1), .ptr 4 0 0], thrYB 5 (codeOf q j nx) (vnew (codeOf q j nx) (callAt q j nx).args), intsB (vnew (codeOf q j nx) (callAt q j nx).args).told] (playB q ws (out ++ [(Ev.mk step j nx false 0 [])]) (q.ts.getD j []) (nx + 1) (codeOf q j nx) (vnew (codeOf q j nx) (callAt q j nx).args) nt sc k step j ⟨hcode, vnew_ok⟩ hws (by simp; omega) (by omega) p hp) rfl ⟨rfl, rfl, rfl, rfl, rfl, rfl, rfl, rfl, rfl, rfl, trivial⟩ ⟨rfl, rfl, rfl, rfl, rfl, rfl, trivial⟩ ?_
    rintro e tl' hout (⟨hov, rfl, rfl, rfl⟩ | ⟨hov, rfl, rfl, rfl⟩) -
    · skip
      exact ⟨[(2, .ptr 0 0 0), (7, .sl 1 0 p.2.length), (8, .sl 4 0 nt), (11, .sl 5 0 (out ++ [(Ev.mk step j nx false 0 [])]).length), (45, intsV sc), (46, SV.i sc.length), (47, SV.i k)], [some (machBlk q), some (intsB p.2), none, some (.cells 83 3 [callV (q.ts.getD j []), SV.i (nx + 1), .ptr 6 0 0]), none, some (evB (out ++ [(Ev.mk step j nx false 0 [])])), some (thrYB 7 (codeOf q j nx) p.1), some (intsB p.1.told)], [0, 1, 2, 3, 4, 413, 309, 501], .inr (.inl ⟨hlt, hov, rfl, rfl, rfl⟩), rfl, rfl, ⟨rfl, rfl, rfl, rfl, rfl, rfl, rfl, trivial⟩, ⟨rfl, rfl, rfl, rfl, rfl, rfl, trivial⟩⟩
    exact ⟨[(2, .ptr 0 0 0), (7, .sl 1 0 p.2.length), (8, .sl 4 0 nt), (11, .sl 5 0 ((out ++ [(Ev.mk step j nx false 0 [])]) ++ [(Ev.mk step j (nx + 1 - 1) true p.1.e p.1.told)]).length), (45, intsV sc), (46, SV.i sc.length), (47, SV.i k)], [some (machBlk q), some (intsB p.2), none, some (.cells 83 3 [callV (q.ts.getD j []), SV.i (nx + 1), .d (.val (.pointer none))]), none, some (evB ((out ++ [(Ev.mk step j nx false 0 [])]) ++ [(Ev.mk step j (nx + 1 - 1) true p.1.e p.1.told)]))], [0, 1, 2, 3, 4, 501], .inr (.inr ⟨hlt, hov, rfl, rfl, rfl⟩), rfl, rfl, ⟨rfl, rfl, rfl, rfl, rfl, rfl, rfl, trivial⟩, ⟨rfl, rfl, rfl, rfl, trivial⟩⟩
  try simp only [cs, ne_eq] at hc19
  refine W_skip ?_
  refine tn ?_
  refine W_seq ?_
  refine r1 ?_
  refine s1 112 141 1 rfl rfl rfl rfl rfl rfl trivial ?_
  refine s1 113 149 2 rfl rfl rfl rfl rfl rfl trivial ?_
  refine s1 114 157 3 rfl rfl rfl rfl rfl rfl trivial ?_
  refine s1 115 165 4 rfl rfl rfl rfl rfl rfl (by first | trivial | omega) ?_
  refine sNilP 116 173 5 rfl rfl rfl rfl rfl rfl rfl rfl ?_
  refine e1 181 rfl ?_
  refine keep [2, 7, 8, 11, 12, 13, 14, 45, 46, 47, 116] rfl ?_
  refine q1 rfl (fun hc24 => ?_) (fun hc24 => ?_)
  · skip
    try simp only [cs, ne_eq] at hc24
    refine W_exit ?_
    refine tx ?_
    exact ⟨[(2, .ptr 0 0 0), (7, .sl 1 0 ws.length), (8, .sl 4 0 nt), (11, .sl 2 0 out.length), (45, intsV sc), (46, SV.i sc.length), (47, SV.i k)], [some (machBlk q), some (intsB ws), some (evB out), some (.cells 83 3 [callV (q.ts.getD j []), SV.i nx, .d (.val (.pointer none))]), none], [0, 1, 2, 3, 4], .inl ⟨by omega, rfl, rfl, rfl⟩, rfl, rfl, ⟨rfl, rfl, rfl, rfl, rfl, rfl, rfl, trivial⟩, ⟨rfl, rfl, rfl, rfl, trivial⟩⟩
  exact absurd hc24 (by decide)

end Go.Proofs.YtnnjobmiepnedaaDoor.Nice

/- A thread in a call. -/
namespace Go.Proofs.YtnnjobmiepnedaaDoor.Nice
open Go
set_option linter.unusedVariables false
set_option linter.unusedSimpArgs false
set_option maxRecDepth 100000
set_option maxHeartbeats 4000000

theorem playC (q : Mach) (ws : List Int) (out : List Ev) (cs : List CallD) (nx : Int) (C : List Ins) (t : Thr) (nt : Nat) (sc : List Int) (k : Nat) (step j : Int) (hl : Live ws.length C t ws) (hws : ws.length ≤ 200) (hout : out.length ≤ 20000) (hnx : 1 ≤ nx ∧ nx ≤ 1000) (p : Thr × List Int) (hp : vstep C ws t = p) : W ⟨Tryd.prog, 161, 7, GV⟩ (codeAt [1, 1, 1, 1, 1, 1, 0, 1, 0, 0, 1, 1, 0, 0, 1, 1] (Tryd.f20.body.getD .skip)) (fun e σ' => ∃ tl' hout π', (fun e tl hout => (p.1.ov = false ∧ e = .normal ∧ tl = [(2, .ptr 0 0 0), (7, .sl 1 0 p.2.length), (8, .sl 6 0 nt), (11, .sl 2 0 out.length), (45, intsV sc), (46, SV.i sc.length), (47, SV.i k)] ∧ hout = [some (machBlk q), some (intsB p.2), some (evB out), some (.cells 83 3 [callV cs, SV.i nx, .ptr 4 0 0]), some (thrYB 7 C p.1), none, none, some (intsB p.1.told)]) ∨ (p.1.ov = true ∧ e = .normal ∧ tl = [(2, .ptr 0 0 0), (7, .sl 1 0 p.2.length), (8, .sl 6 0 nt), (11, .sl 7 0 (out ++ [(Ev.mk step j (nx - 1) true p.1.e p.1.told)]).length), (45, intsV sc), (46, SV.i sc.length), (47, SV.i k)] ∧ hout = [some (machBlk q), some (intsB p.2), none, some (.cells 83 3 [callV cs, SV.i nx, .d (.val (.pointer none))]), none, none, none, some (evB (out ++ [(Ev.mk step j (nx - 1) true p.1.e p.1.told)]))])) e tl' hout ∧ okF 6 1 hout = true ∧ Sub ⟨Tryd.prog, 161, 7, GV⟩ π' σ' tl' hout) ⟨tOf [(2, .ptr 0 0 0), (7, .sl 1 0 ws.length), (8, .sl 6 0 nt), (11, .sl 2 0 out.length), (12, SV.i step), (13, SV.i j), (14, .ptr 3 0 0), (45, intsV sc), (46, SV.i sc.length), (47, SV.i k)], hOf ([some (machBlk q), some (intsB ws), some (evB out), some (.cells 83 3 [callV cs, SV.i nx, .ptr 4 0 0]), some (thrYB 5 C t), some (intsB t.told)]), 7⟩ := by
  refine W_seq ?_
  refine rd1 rfl ?_
  refine d1 56 7 1 rfl rfl rfl rfl rfl rfl trivial ?_
  refine d1 57 15 2 rfl rfl rfl rfl rfl rfl trivial ?_
  refine d1 58 23 3 rfl rfl rfl rfl rfl rfl trivial ?_
  refine d1 59 31 4 rfl rfl rfl rfl rfl rfl (by first | trivial | omega) ?_
  refine dNilP 60 39 5 rfl rfl rfl rfl rfl rfl rfl rfl ?_
  refine d1 61 47 6 rfl rfl rfl rfl rfl rfl trivial ?_
  refine g0 5 true 61 62 7 rfl rfl rfl rfl rfl rfl ?_
  refine g0 5 true 61 63 8 rfl rfl rfl rfl rfl rfl ?_
  refine g0 5 true 61 64 9 rfl rfl rfl rfl rfl rfl ?_
  refine g0 5 true 61 65 10 rfl rfl rfl rfl rfl rfl ?_
  refine g0 5 true 61 66 11 rfl rfl rfl rfl rfl rfl ?_
  refine g0 5 true 61 67 12 rfl rfl rfl rfl rfl rfl ?_
  refine g0 5 true 61 68 13 rfl rfl rfl rfl rfl rfl ?_
  refine g0 5 true 61 69 14 rfl rfl rfl rfl rfl rfl ?_
  refine g0 5 true 61 70 15 rfl rfl rfl rfl rfl rfl ?_
  refine g0 5 true 61 71 16 rfl rfl rfl rfl rfl rfl ?_
  refine d1 72 135 17 rfl rfl rfl rfl rfl rfl trivial ?_
  refine de1 143 rfl (by kernel_rfl) ?_
  refine keep [2, 7, 8, 11, 12, 13, 14, 45, 46, 47, 72] rfl ?_
  refine q1 rfl (fun hc19 => ?_) (fun hc19 => ?_)
  · skip
    exact absurd hc19 (by decide)
  try simp only [cs, ne_eq] at hc19
  refine W_skip ?_
  refine tn ?_
  refine W_focus [0, 1, 2, 3, 4, 5] [6] [(2, .ptr 0 0 0), (7, .sl 1 0 ws.length), (8, .sl 6 0 nt), (11, .sl 2 0 out.length), (12, SV.i step), (13, SV.i j), (14, .ptr 3 0 0), (45, intsV sc), (46, SV.i sc.length), (47, SV.i k)] [machBlk q, intsB ws, evB out, .cells 83 3 [callV cs, SV.i nx, .ptr 4 0 0], thrYB 5 C t, intsB t.told] (playB q ws out cs nx C t nt sc k step j hl hws hout hnx p hp) rfl ⟨rfl, rfl, rfl, rfl, rfl, rfl, rfl, rfl, rfl, rfl, trivial⟩ ⟨rfl, rfl, rfl, rfl, rfl, rfl, trivial⟩ ?_
  rintro e tl' hout (⟨hov, rfl, rfl, rfl⟩ | ⟨hov, rfl, rfl, rfl⟩) -
  · skip
    exact ⟨[(2, .ptr 0 0 0), (7, .sl 1 0 p.2.length), (8, .sl 6 0 nt), (11, .sl 2 0 out.length), (45, intsV sc), (46, SV.i sc.length), (47, SV.i k)], [some (machBlk q), some (intsB p.2), some (evB out), some (.cells 83 3 [callV cs, SV.i nx, .ptr 4 0 0]), some (thrYB 7 C p.1), none, none, some (intsB p.1.told)], [0, 1, 2, 3, 4, 5, 6, 143], .inl ⟨hov, rfl, rfl, rfl⟩, rfl, rfl, ⟨rfl, rfl, rfl, rfl, rfl, rfl, rfl, trivial⟩, ⟨rfl, rfl, rfl, rfl, rfl, rfl, trivial⟩⟩
  exact ⟨[(2, .ptr 0 0 0), (7, .sl 1 0 p.2.length), (8, .sl 6 0 nt), (11, .sl 7 0 (out ++ [(Ev.mk step j (nx - 1) true p.1.e p.1.told)]).length), (45, intsV sc), (46, SV.i sc.length), (47, SV.i k)], [some (machBlk q), some (intsB p.2), none, some (.cells 83 3 [callV cs, SV.i nx, .d (.val (.pointer none))]), none, none, none, some (evB (out ++ [(Ev.mk step j (nx - 1) true p.1.e p.1.told)]))], [0, 1, 2, 3, 4, 5, 6, 143], .inr ⟨hov, rfl, rfl, rfl⟩, rfl, rfl, ⟨rfl, rfl, rfl, rfl, rfl, rfl, rfl, trivial⟩, ⟨rfl, rfl, rfl, rfl, trivial⟩⟩

end Go.Proofs.YtnnjobmiepnedaaDoor.Nice

/- Threads beside each other: the whole run, as plain functions. -/
namespace Go.Proofs.YtnnjobmiepnedaaDoor.Nice
open Go
set_option linter.unusedVariables false
set_option linter.unusedSimpArgs false
set_option maxRecDepth 100000
set_option maxHeartbeats 4000000
def thrO (n : Nat) (c : Option (List Ins × Thr)) : Option Blk := c.map fun p => thrYB n p.1 p.2
def toldO (c : Option (List Ins × Thr)) : Option Blk := c.map fun p => intsB p.2.told
structure TSok (q : Mach) (j : Nat) (s : TS) : Prop where
  nx : 0 ≤ s.nx ∧ s.nx ≤ (q.ts.getD j []).length
  cur : ∀ C t, s.cur = some (C, t) → mayB C = true ∧ (t.ov = false → 0 ≤ t.pc ∧ t.pc < C.length) ∧ t.told.length ≤ 200 ∧ 1 ≤ s.nx
theorem prun_at {q : Mach} {sc : List Int} {k : Nat} (h : k < sc.length) (s : PS) : prun q (sc.drop k) k s = prun q (sc.drop (k + 1)) (k + 1) (pstep q (sc.getD k 0).toNat k s) := by
  rw [List.drop_eq_getElem_cons h, show sc.getD k 0 = sc[k] from by simp [List.getD, h]]; rfl
theorem pstep_eq {q : Mach} {j : Nat} {step : Int} {s : PS} {a : TS} {b : List Int} {c : List Ev} (h : pbody q j step (s.ts.getD j ⟨0, none⟩) s.ws s.out = (a, b, c)) : pstep q j step s = ⟨b, c, s.ts.set j a⟩ := by unfold pstep; rw [h]
theorem pb_idle {q : Mach} {j : Nat} {step nx : Int} {ws : List Int} {out : List Ev} (h : ¬ nx < (q.ts.getD j []).length) : pbody q j step ⟨nx, none⟩ ws out = (⟨nx, none⟩, ws, out) := by unfold pbody; simp only; rw [if_neg h]
theorem pgo_alive {j step nx : Int} {C : List Ins} {t : Thr} {ws : List Int} {out : List Ev} {p : Thr × List Int} (hp : vstep C ws t = p) (h : p.1.ov = false) : pgo j step nx C t ws out = (⟨nx, some (C, p.1)⟩, p.2, out) := by unfold pgo; rw [hp, if_neg (by rw [h]; decide)]
theorem pgo_over {j step nx : Int} {C : List Ins} {t : Thr} {ws : List Int} {out : List Ev} {p : Thr × List Int} (hp : vstep C ws t = p) (h : p.1.ov = true) : pgo j step nx C t ws out = (⟨nx, none⟩, p.2, out ++ [⟨step, j, nx - 1, true, p.1.e, p.1.told⟩]) := by unfold pgo; rw [hp, if_pos h]
theorem pb_begin {q : Mach} {j : Nat} {step nx : Int} {ws : List Int} {out : List Ev} (h : nx < (q.ts.getD j []).length) : pbody q j step ⟨nx, none⟩ ws out = pgo j step (nx + 1) (codeOf q j nx) (vnew (codeOf q j nx) (callAt q j nx).args) ws (out ++ [⟨step, j, nx, false, 0, []⟩]) := by unfold pbody; simp only; rw [if_pos h]
theorem pb_go {q : Mach} {j : Nat} {step nx : Int} {C : List Ins} {t : Thr} {ws : List Int} {out : List Ev} : pbody q j step ⟨nx, some (C, t)⟩ ws out = pgo j step nx C t ws out := rfl
theorem pinit_n {q : Mach} {n : Nat} (h : q.ts.length = n) : pinit q = ⟨q.ws, [], List.replicate n ⟨0, none⟩⟩ := by unfold pinit; rw [List.map_const', h]
theorem ok_init (q : Mach) (j : Nat) : TSok q j ⟨0, none⟩ := ⟨⟨by simp, by simp⟩, fun C t h => by cases h⟩
theorem ok_alive {q : Mach} {j : Nat} {nx : Int} {C : List Ins} {t : Thr} {ws : List Int} (hl : Live ws.length C t ws) (h0 : 1 ≤ nx ∧ nx ≤ (q.ts.getD j []).length) {p : Thr × List Int} (hp : vstep C ws t = p) : TSok q j ⟨nx, some (C, p.1)⟩ := by
  have := vstep_ok hl.c hl.ok
  rw [hp] at this
  exact ⟨⟨by show 0 ≤ nx; omega, h0.2⟩, fun C' t' h => by cases h; exact ⟨hl.c, this.pc, this.told, h0.1⟩⟩
theorem ok_over {q : Mach} {j : Nat} {nx : Int} (h0 : 0 ≤ nx ∧ nx ≤ (q.ts.getD j []).length) : TSok q j ⟨nx, none⟩ := ⟨h0, fun C t h => by cases h⟩
theorem ws_len {C : List Ins} {t : Thr} {ws : List Int} (hl : Live ws.length C t ws) {p : Thr × List Int} (hp : vstep C ws t = p) : p.2.length = ws.length := by
  have := (vstep_ok hl.c hl.ok).ws
  rw [hp] at this; exact this
theorem live_of {q : Mach} {j : Nat} {nx : Int} {C : List Ins} {t : Thr} {ws : List Int} (h : TSok q j ⟨nx, some (C, t)⟩) : Live ws.length C t ws ∧ 1 ≤ nx := by
  obtain ⟨h1, h2, h3, h4⟩ := h.cur C t rfl
  exact ⟨⟨h1, ⟨h2, h3, rfl⟩⟩, h4⟩
theorem thr_short {q : Mach} (hq : machB q = true) (j : Nat) : (q.ts.getD j []).length ≤ 20 := by
  by_cases hj : j < q.ts.length
  · unfold machB at hq
    rw [Bool.and_eq_true, Bool.and_eq_true, List.all_eq_true, List.all_eq_true] at hq
    have h2 := hq.2.2 _ (List.getElem_mem hj)
    unfold thrB at h2
    rw [Bool.and_eq_true, decide_eq_true_eq] at h2
    rw [getG hj]; exact h2.1
  · rw [List.getD_eq_getElem?_getD, List.getElem?_eq_none (by omega)]; simp
theorem mach_ws {q : Mach} (hq : machB q = true) : q.ws.length ≤ 200 ∧ q.ts.length ≤ 4 := by
  unfold machB sizeB at hq
  simp only [Bool.and_eq_true, decide_eq_true_eq] at hq
  omega
theorem pl_form {q : Mach} {sc : List Int} (h : machB q = false) : played q sc = ⟨[], [], 4⟩ := by unfold played; rw [if_pos h]
theorem pl_size {q : Mach} {sc : List Int} (h : machB q = true) (h2 : 6000 < sc.length) : played q sc = ⟨[], [], 1⟩ := by unfold played; rw [if_neg (by rw [h]; decide), if_pos h2]
theorem pl_range {q : Mach} {sc : List Int} (h : machB q = true) (h2 : ¬ 6000 < sc.length) (h3 : sc.any (bad q) = true) : played q sc = ⟨[], [], 2⟩ := by unfold played; rw [if_neg (by rw [h]; decide), if_neg h2, if_pos h3]
theorem pl_run {q : Mach} {sc : List Int} (h : machB q = true) (h2 : ¬ 6000 < sc.length) (h3 : sc.any (bad q) = false) {s : PS} (hs : prun q sc 0 (pinit q) = s) : played q sc = ⟨s.out, s.ws, 0⟩ := by unfold played; rw [if_neg (by rw [h]; decide), if_neg h2, if_neg (by rw [h3]; decide), hs]
theorem sched_in {q : Mach} {sc : List Int} (h : sc.any (bad q) = false) {k : Nat} (hk : k < sc.length) : 0 ≤ sc.getD k 0 ∧ sc.getD k 0 < q.ts.length := by
  rw [List.any_eq_false] at h
  have := h _ (List.getElem_mem hk)
  rw [show sc.getD k 0 = sc[k] from by simp [List.getD, hk]]
  unfold bad at this
  simp only [Bool.or_eq_true, decide_eq_true_eq, not_or] at this
  omega
def idxI (l : List Int) (p : Int → Bool) : Int := match l.findIdx? p with | some i => i | none => -1
theorem idxI_found {l : List Int} {p : Int → Bool} {k : Nat} (h : k < l.length) (hp : p (l.getD k 0) = true) (hn : ∀ j, j < k → p (l.getD j 0) = false) : idxI l p = k := by
  unfold idxI
  have : l.findIdx? p = some k := by
    rw [List.findIdx?_eq_some_iff_getElem]
    refine ⟨h, by rw [← getG h]; exact hp, fun j hj => by have := hn j hj; rw [getG (by omega)] at this; simp [this]⟩
  rw [this]
theorem idxI_none {l : List Int} {p : Int → Bool} (hn : ∀ j, j < l.length → p (l.getD j 0) = false) : idxI l p = -1 := by
  unfold idxI
  have : l.findIdx? p = none := by
    rw [List.findIdx?_eq_none_iff]
    intro x hx
    obtain ⟨j, hj, rfl⟩ := List.mem_iff_getElem.1 hx
    rw [← getG hj]; exact hn j hj
  rw [this]
theorem idxI_any {l : List Int} {p : Int → Bool} : decide (idxI l p ≥ 0) = l.any p := by
  unfold idxI
  cases h : l.findIdx? p with
  | none =>
    rw [List.findIdx?_eq_none_iff] at h
    have : l.any p = false := by rw [List.any_eq_false]; intro x hx; simp [h x hx]
    rw [this]; rfl
  | some i =>
    rw [List.findIdx?_eq_some_iff_getElem] at h
    obtain ⟨hi, hp, _⟩ := h
    have : l.any p = true := by rw [List.any_eq_true]; exact ⟨_, List.getElem_mem hi, hp⟩
    rw [this]; simp

theorem badp_any (q : Mach) (v : Int) : Spec Tryd.prog GV 42 [SV.i v, .ptr 0 0 0] [machBlk q] (fun r ho => r = SV.b (bad q v) ∧ ho = [some (machBlk q)]) := by
  refine start 13 1 Tryd.func42 rfl rfl rfl rfl ?_
  refine r1 ?_
  refine s1 3 1 1 rfl rfl rfl rfl rfl rfl trivial ?_
  refine e1 9 rfl ?_
  refine keep [0, 1] rfl ?_
  refine r1 ?_
  refine s1 4 9 1 rfl rfl rfl rfl rfl rfl trivial ?_
  refine s1 5 17 2 rfl rfl rfl rfl rfl rfl (by first | trivial | omega) ?_
  refine s1 6 25 3 rfl rfl rfl rfl rfl rfl trivial ?_
  refine ask 6 rfl (fun hg1_6 => ?_) (fun hg1_6 => ?_)
  · skip
    try simp only [cs, ne_eq] at hg1_6
    refine g0 2 false 6 7 4 rfl rfl rfl rfl rfl rfl ?_
    refine g0 2 false 6 8 5 rfl rfl rfl rfl rfl rfl ?_
    refine g0 2 false 6 9 6 rfl rfl rfl rfl rfl rfl ?_
    refine g0 2 false 6 10 7 rfl rfl rfl rfl rfl rfl ?_
    refine g0 2 false 6 11 8 rfl rfl rfl rfl rfl rfl ?_
    refine s1 12 73 9 rfl rfl rfl rfl rfl rfl trivial ?_
    refine s1 3 81 10 rfl rfl rfl rfl rfl rfl trivial ?_
    refine e1 89 rfl ?_
    refine keep [3] rfl ?_
    refine W_ret ?_
    exact out1 3 (SV.b (bad q v)) (π := [0]) (hout := [some (machBlk q)]) Tryd.results42 rfl (by show SV.b _ = SV.b _; refine congrArg SV.b (Bool.eq_iff_iff.2 ?_); first | (simp [bad, *]; done) | (simp [bad, *]; omega) | (simp [bad] at *; omega)) rfl rfl ⟨rfl, trivial⟩ ⟨rfl, rfl⟩
  try simp only [cs, ne_eq] at hg1_6
  refine g1 2 false 6 7 4 rfl rfl rfl rfl rfl ?_
  refine s1 7 33 4 rfl rfl rfl rfl rfl rfl trivial ?_
  refine g1 2 false 6 8 5 rfl rfl rfl rfl rfl ?_
  refine s1 8 41 5 rfl rfl rfl rfl rfl rfl trivial ?_
  refine g1 2 false 6 9 6 rfl rfl rfl rfl rfl ?_
  refine s1 9 49 6 rfl rfl rfl rfl rfl rfl (by first | trivial | omega) ?_
  refine g1 2 false 6 10 7 rfl rfl rfl rfl rfl ?_
  refine s1 10 57 7 rfl rfl rfl rfl rfl rfl (by first | trivial | omega) ?_
  refine g1 2 false 6 11 8 rfl rfl rfl rfl rfl ?_
  refine s1 11 65 8 rfl rfl rfl rfl rfl rfl (by first | trivial | omega) ?_
  refine s1 12 73 9 rfl rfl rfl rfl rfl rfl trivial ?_
  refine s1 3 81 10 rfl rfl rfl rfl rfl rfl trivial ?_
  refine e1 89 rfl ?_
  refine keep [3] rfl ?_
  refine W_ret ?_
  exact out1 3 (SV.b (bad q v)) (π := [0]) (hout := [some (machBlk q)]) Tryd.results42 rfl (by show SV.b _ = SV.b _; refine congrArg SV.b (Bool.eq_iff_iff.2 ?_); first | (simp [bad, *]; done) | (simp [bad, *]; omega) | (simp [bad] at *; omega)) rfl rfl ⟨rfl, trivial⟩ ⟨rfl, rfl⟩

theorem indexI_any (q : Mach) (l : List Int) (hl : l.length ≤ 9223372036854775807) : Spec Tryd.prog GV 62 [intsV l, .fn 42 [.ptr 0 0 0]] [machBlk q] (fun r ho => r = SV.i (idxI l (bad q)) ∧ ho = [some (machBlk q)]) := by
  refine start 19 1 Tryd.func62 rfl rfl rfl rfl ?_
  refine r1 ?_
  refine s1 4 1 1 rfl rfl rfl rfl rfl rfl trivial ?_
  refine e1 9 rfl ?_
  refine keep [0, 1] rfl ?_
  refine W_seq ?_
  refine r1 ?_
  refine s1 6 9 1 rfl rfl rfl rfl rfl rfl trivial ?_
  refine s1 7 17 2 rfl rfl rfl rfl rfl rfl (by first | trivial | omega) ?_
  refine s1 8 25 3 rfl rfl rfl rfl rfl rfl trivial ?_
  refine e1 33 rfl ?_
  refine keep [0, 1, 7, 8] rfl ?_
  refine W_block ?_
  refine loop (α := Nat) 1 (fun n => [(0, intsV l), (1, .fn 42 [.ptr 0 0 0]), (7, SV.i l.length), (8, SV.i n)]) (fun n => [some (machBlk q)]) (fun n => n ≤ l.length ∧ ∀ j, j < n → bad q (l.getD j 0) = false) (fun n => l.length - n) (0) [0] (fun _ => rfl) ⟨Nat.zero_le _, fun j hj => by omega⟩ rfl ⟨rfl, rfl, rfl, rfl, trivial⟩ ⟨rfl, trivial⟩ (fun n hx => ?_)
  obtain ⟨hn, hno⟩ := hx
  refine r1 ?_
  refine s1 9 1 1 rfl rfl rfl rfl rfl rfl (by first | trivial | omega) ?_
  refine e1 9 rfl ?_
  refine keep [0, 1, 7, 8, 9] rfl ?_
  refine W_seq ?_
  refine q1 rfl (fun hc2 => ?_) (fun hc2 => ?_)
  · skip
    try simp only [cs, ne_eq] at hc2
    refine W_skip ?_
    refine tn ?_
    refine W_seq ?_
    refine W_block ?_
    refine r1 ?_
    refine s1 10 9 1 rfl rfl rfl rfl rfl rfl trivial ?_
    refine s1 5 17 2 rfl rfl rfl rfl rfl rfl trivial ?_
    refine e1 25 rfl ?_
    refine keep [0, 1, 5, 7, 8] rfl ?_
    refine r1 ?_
    refine s1 11 25 1 rfl rfl rfl rfl rfl rfl trivial ?_
    refine s1 12 33 2 rfl rfl rfl rfl rfl rfl trivial ?_
    refine s1 13 41 3 rfl rfl rfl rfl rfl rfl trivial ?_
    refine s1 14 49 4 rfl rfl rfl rfl rfl rfl (by first | trivial | omega) ?_
    refine s1 15 57 5 rfl rfl rfl rfl rfl rfl (by first | trivial | omega) ?_
    refine c1 (badp_any q (l.getD n 0)) [0] [0] 16 65 6 rfl rfl rfl rfl rfl rfl rfl rfl Tryd.func42 rfl rfl rfl rfl ⟨rfl, trivial⟩ rfl rfl ?_
    refine e1 73 rfl ?_
    refine keep [0, 1, 5, 7, 8, 16] rfl ?_
    refine q1 rfl (fun hc4 => ?_) (fun hc4 => ?_)
    · skip
      try simp only [cs, ne_eq] at hc4
      refine r1 ?_
      refine s1 17 73 1 rfl rfl rfl rfl rfl rfl trivial ?_
      refine s1 4 81 2 rfl rfl rfl rfl rfl rfl trivial ?_
      refine e1 89 rfl ?_
      refine keep [4] rfl ?_
      refine W_ret ?_
      refine br ?_
      refine tr ?_
      refine tr ?_
      refine br ?_
      refine tr ?_
      exact out1 4 (SV.i (idxI l (bad q))) (π := [0]) (hout := [some (machBlk q)]) Tryd.results62 rfl (by rw [idxI_found (by omega) hc4 hno]; rfl) rfl rfl ⟨rfl, trivial⟩ ⟨rfl, rfl⟩
    try simp only [cs, ne_eq] at hc4
    refine W_skip ?_
    refine bn ?_
    refine tn ?_
    refine r0 ?_
    refine sA 18 73 1 rfl rfl rfl rfl rfl rfl rfl rfl rfl (by unfold inRange; omega) ?_
    refine s1 8 81 2 rfl rfl rfl rfl rfl rfl trivial ?_
    refine e1 89 rfl ?_
    refine tn ?_
    exact again (n + 1) [0] ⟨by omega, fun j hj => by by_cases e : j = n; (subst e; exact hc4); exact hno j (by omega)⟩ (by omega) rfl ⟨rfl, rfl, rfl, rfl, trivial⟩ ⟨rfl, trivial⟩
  try simp only [cs, ne_eq] at hc2
  refine W_exit ?_
  refine tx ?_
  refine tx ?_
  refine bx ?_
  refine tn ?_
  refine r1 ?_
  refine s1 4 9 1 rfl rfl rfl rfl rfl rfl trivial ?_
  refine e1 17 rfl ?_
  refine keep [4] rfl ?_
  refine W_ret ?_
  exact out1 4 (SV.i (idxI l (bad q))) (π := [0]) (hout := [some (machBlk q)]) Tryd.results62 rfl (by rw [idxI_none (fun j hj => hno j (by omega))]; rfl) rfl rfl ⟨rfl, trivial⟩ ⟨rfl, rfl⟩

theorem containsI_any (q : Mach) (l : List Int) (hl : l.length ≤ 9223372036854775807) : Spec Tryd.prog GV 41 [intsV l, .fn 42 [.ptr 0 0 0]] [machBlk q] (fun r ho => r = SV.b (l.any (bad q)) ∧ ho = [some (machBlk q)]) := by
  refine start 9 1 Tryd.func41 rfl rfl rfl rfl ?_
  refine r1 ?_
  refine s1 4 1 1 rfl rfl rfl rfl rfl rfl trivial ?_
  refine e1 9 rfl ?_
  refine keep [0, 1] rfl ?_
  refine r1 ?_
  refine s1 5 9 1 rfl rfl rfl rfl rfl rfl trivial ?_
  refine s1 6 17 2 rfl rfl rfl rfl rfl rfl trivial ?_
  refine c1 (indexI_any q l hl) [0] [0] 7 25 3 rfl rfl rfl rfl rfl rfl rfl rfl Tryd.func62 rfl rfl rfl rfl ⟨rfl, trivial⟩ rfl rfl ?_
  refine s1 8 33 4 rfl rfl rfl rfl rfl rfl (by first | trivial | omega) ?_
  refine s1 4 41 5 rfl rfl rfl rfl rfl rfl trivial ?_
  refine e1 49 rfl ?_
  refine keep [4] rfl ?_
  refine W_ret ?_
  exact out1 4 (SV.b (l.any (bad q))) (π := [0]) (hout := [some (machBlk q)]) Tryd.results41 rfl (congrArg SV.b idxI_any) rfl rfl ⟨rfl, trivial⟩ ⟨rfl, rfl⟩

end Go.Proofs.YtnnjobmiepnedaaDoor.Nice

/- What a run comes to: its sizes. -/
namespace Go.Proofs.YtnnjobmiepnedaaDoor.Nice
open Go
set_option linter.unusedVariables false
set_option linter.unusedSimpArgs false
set_option maxRecDepth 100000
set_option maxHeartbeats 4000000

structure PSok (q : Mach) (k : Nat) (s : PS) : Prop where
  ws : s.ws.length ≤ 200
  ts : ∀ j, TSok q j (s.ts.getD j ⟨0, none⟩)
  out : ∀ e, e ∈ s.out → e.told.length ≤ 200
  n : s.out.length ≤ 2 * k
theorem pgo_ok {q : Mach} {j : Nat} {step nx : Int} {C : List Ins} {t : Thr} {ws : List Int} {out : List Ev} (hl : Live ws.length C t ws) (hw : ws.length ≤ 200) (h0 : 1 ≤ nx ∧ nx ≤ (q.ts.getD j []).length) (ho : ∀ e, e ∈ out → e.told.length ≤ 200) :
    TSok q j (pgo j step nx C t ws out).1 ∧ (pgo j step nx C t ws out).2.1.length ≤ 200 ∧ (∀ e, e ∈ (pgo j step nx C t ws out).2.2 → e.told.length ≤ 200) ∧ (pgo j step nx C t ws out).2.2.length ≤ out.length + 1 := by
  have h1 := ws_len hl rfl
  have h2 := (vstep_ok hl.c hl.ok).told
  cases h : (vstep C ws t).1.ov with
  | false => rw [pgo_alive rfl h]; exact ⟨ok_alive hl h0 rfl, by show (vstep C ws t).2.length ≤ 200; omega, ho, Nat.le_succ _⟩
  | true =>
    rw [pgo_over rfl h]
    refine ⟨ok_over ⟨by omega, h0.2⟩, by show (vstep C ws t).2.length ≤ 200; omega, fun e he => ?_, by simp⟩
    rcases List.mem_append.1 he with he | he
    · exact ho e he
    · rw [List.mem_singleton.1 he]; exact h2
theorem pbody_ok {q : Mach} (hq : machB q = true) {j : Nat} (hj : j < q.ts.length) {step : Int} {s : TS} {ws : List Int} {out : List Ev} (hs : TSok q j s) (hw : ws.length ≤ 200) (ho : ∀ e, e ∈ out → e.told.length ≤ 200) :
    TSok q j (pbody q j step s ws out).1 ∧ (pbody q j step s ws out).2.1.length ≤ 200 ∧ (∀ e, e ∈ (pbody q j step s ws out).2.2 → e.told.length ≤ 200) ∧ (pbody q j step s ws out).2.2.length ≤ out.length + 2 := by
  obtain ⟨nx, cur⟩ := s
  have hnx := hs.nx
  cases cur with
  | none =>
    by_cases h : nx < (q.ts.getD j []).length
    · rw [pb_begin h]
      obtain ⟨_, _, _, hc⟩ := mach_calls hq hj nx hnx.1 h
      have := pgo_ok (q := q) (j := j) (step := step) (nx := nx + 1) (C := codeOf q j nx) (t := vnew (codeOf q j nx) (callAt q j nx).args) (ws := ws) (out := out ++ [⟨step, j, nx, false, 0, []⟩]) ⟨hc, vnew_ok⟩ hw ⟨by have := hnx.1; simp only [] at this; omega, by omega⟩ (fun e he => by
        rcases List.mem_append.1 he with he | he
        · exact ho e he
        · rw [List.mem_singleton.1 he]; simp)
      exact ⟨this.1, this.2.1, this.2.2.1, by have := this.2.2.2; rw [List.length_append, List.length_singleton] at this; omega⟩
    · rw [pb_idle h]; exact ⟨hs, hw, ho, by show out.length ≤ _; omega⟩
  | some p =>
    obtain ⟨C, t⟩ := p
    have hl := live_of (ws := ws) hs
    rw [pb_go]
    have := pgo_ok (q := q) (j := j) (step := step) (nx := nx) (out := out) hl.1 hw ⟨hl.2, hnx.2⟩ ho
    exact ⟨this.1, this.2.1, this.2.2.1, by omega⟩
theorem prun_ok {q : Mach} (hq : machB q = true) : ∀ (sc : List Int) (k : Nat) (s : PS), (∀ v, v ∈ sc → bad q v = false) → PSok q k s → PSok q (k + sc.length) (prun q sc k s)
  | [], k, s, _, h => h
  | v :: r, k, s, hb, h => by
    unfold prun
    have hv := hb v (List.mem_cons_self ..)
    unfold bad at hv
    simp only [Bool.or_eq_false_iff, decide_eq_false_iff_not] at hv
    have hj : v.toNat < q.ts.length := by omega
    have := pbody_ok hq hj (step := (k : Int)) (h.ts v.toNat) h.ws h.out
    have ih := prun_ok hq r (k + 1) (pstep q v.toNat k s) (fun u hu => hb u (List.mem_cons_of_mem _ hu)) ⟨this.2.1, fun j => ?_, this.2.2.1, by have h1 := this.2.2.2; have h2 := h.n; show (pbody q v.toNat k (s.ts.getD v.toNat ⟨0, none⟩) s.ws s.out).2.2.length ≤ _; omega⟩
    · rw [List.length_cons, show k + (r.length + 1) = k + 1 + r.length by omega]; exact ih
    · show TSok q j ((s.ts.set v.toNat _).getD j ⟨0, none⟩)
      rw [List.getD_eq_getElem?_getD, List.getElem?_set]
      by_cases e : v.toNat = j
      · subst e
        rw [if_pos rfl]
        split
        · exact this.1
        · exact ok_init q _
      · rw [if_neg e, ← List.getD_eq_getElem?_getD]; exact h.ts j
theorem played_ok (q : Mach) (sc : List Int) : (played q sc).ws.length ≤ 200 ∧ (∀ e, e ∈ (played q sc).out → e.told.length ≤ 200) ∧ (played q sc).out.length ≤ 12000 := by
  unfold played
  split
  · simp
  · next h1 =>
    split
    · simp
    · next h2 =>
      split
      · simp
      · next h3 =>
        have hq : machB q = true := by cases e : machB q <;> simp_all
        have := prun_ok hq sc 0 (pinit q) (fun v hv => by
          have h4 : sc.any (bad q) = false := by cases e : sc.any (bad q) <;> simp_all
          rw [List.any_eq_false] at h4
          have := h4 v hv
          cases e : bad q v <;> simp_all) ⟨(mach_ws hq).1, fun j => ?_, (fun e he => by cases he), by show ([] : List Ev).length ≤ _; simp⟩
        · exact ⟨this.ws, this.out, by have := this.n; show (prun q sc 0 (pinit q)).out.length ≤ _; omega⟩
        · have : (pinit q).ts.getD j ⟨0, none⟩ = ⟨0, none⟩ := by
            unfold pinit
            rw [List.getD_eq_getElem?_getD, List.getElem?_map]
            cases q.ts[j]? <;> rfl
          rw [this]; exact ok_init q j
theorem ev_mem {l : List Ev} {n : Nat} (h : n < l.length) : l.getD n default ∈ l := by
  rw [show l.getD n default = l[n] from by simp [List.getD, h]]; exact List.getElem_mem h

end Go.Proofs.YtnnjobmiepnedaaDoor.Nice
