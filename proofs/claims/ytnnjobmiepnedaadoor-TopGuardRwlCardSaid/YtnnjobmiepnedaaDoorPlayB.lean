/- One step of a thread in run.Play. -/
import Derived.Test.YtnnjobmiepnedaaDoorPlayP
namespace Go.Proofs.YtnnjobmiepnedaaDoor.Nice
open Go
set_option linter.unusedVariables false
set_option linter.unusedSimpArgs false
set_option maxRecDepth 100000
set_option maxHeartbeats 4000000

theorem playB (q : Mach) (ws : List Int) (out : List Ev) (cs : List CallD) (nx : Int) (C : List Ins) (t : Thr) (nt : Nat) (sc : List Int) (k : Nat) (step j : Int) (hl : Live ws.length C t ws) (hws : ws.length ≤ 200) (hout : out.length ≤ 20000) (hnx : 1 ≤ nx ∧ nx ≤ 1000) (p : Thr × List Int) (hp : vstep C ws t = p) : W ⟨Tryd.prog, 161, 7, GV⟩ (codeAt [1, 1, 1, 1, 1, 1, 0, 1, 0, 0, 1, 1, 0, 0, 1, 1, 1] (Tryd.f20.body.getD .skip)) (fun e σ' => ∃ tl' hout π', (fun e tl hout => (p.1.ov = false ∧ e = .normal ∧ tl = [(2, .ptr 0 0 0), (7, .sl 1 0 p.2.length), (8, .sl 6 0 nt), (11, .sl 2 0 out.length), (45, intsV sc), (46, SV.i sc.length), (47, SV.i k)] ∧ hout = [some (machBlk q), some (intsB p.2), some (evB out), some (.cells 83 3 [callV cs, SV.i nx, .ptr 4 0 0]), some (thrYB 7 C p.1), none, none, some (intsB p.1.told)]) ∨ (p.1.ov = true ∧ e = .normal ∧ tl = [(2, .ptr 0 0 0), (7, .sl 1 0 p.2.length), (8, .sl 6 0 nt), (11, .sl 7 0 (out ++ [(Ev.mk step j (nx - 1) true p.1.e p.1.told)]).length), (45, intsV sc), (46, SV.i sc.length), (47, SV.i k)] ∧ hout = [some (machBlk q), some (intsB p.2), none, some (.cells 83 3 [callV cs, SV.i nx, .d (.val (.pointer none))]), none, none, none, some (evB (out ++ [(Ev.mk step j (nx - 1) true p.1.e p.1.told)]))])) e tl' hout ∧ okF 6 1 hout = true ∧ Sub ⟨Tryd.prog, 161, 7, GV⟩ π' σ' tl' hout) ⟨tOf [(2, .ptr 0 0 0), (7, .sl 1 0 ws.length), (8, .sl 6 0 nt), (11, .sl 2 0 out.length), (12, SV.i step), (13, SV.i j), (14, .ptr 3 0 0), (45, intsV sc), (46, SV.i sc.length), (47, SV.i k)], hOf ([some (machBlk q), some (intsB ws), some (evB out), some (.cells 83 3 [callV cs, SV.i nx, .ptr 4 0 0]), some (thrYB 5 C t), some (intsB t.told)]), 7⟩ := by
  have hlen := (vstep_ok hl.c hl.ok).ws
  have htd := (vstep_ok hl.c hl.ok).told
  rw [hp] at hlen htd
  refine W_seq ?_
  refine r1 ?_
  refine s1 112 7 1 rfl rfl rfl rfl rfl rfl trivial ?_
  refine s1 113 15 2 rfl rfl rfl rfl rfl rfl trivial ?_
  refine s1 114 23 3 rfl rfl rfl rfl rfl rfl trivial ?_
  refine s1 115 31 4 rfl rfl rfl rfl rfl rfl (by first | trivial | omega) ?_
  refine sNilP 116 39 5 rfl rfl rfl rfl rfl rfl rfl rfl ?_
  refine e1 47 rfl ?_
  refine keep [2, 7, 8, 11, 12, 13, 14, 45, 46, 47, 116] rfl ?_
  refine q1 rfl (fun hc24 => ?_) (fun hc24 => ?_)
  · skip
    exact absurd hc24 (by decide)
  · skip
    try simp only [cs, ne_eq] at hc24
    refine W_skip ?_
    refine tn ?_
    refine r1 ?_
    refine s1 117 47 1 rfl rfl rfl rfl rfl rfl trivial ?_
    refine s1 118 55 2 rfl rfl rfl rfl rfl rfl trivial ?_
    refine s1 119 63 3 rfl rfl rfl rfl rfl rfl trivial ?_
    refine s1 120 71 4 rfl rfl rfl rfl rfl rfl (by first | trivial | omega) ?_
    refine s1 121 79 5 rfl rfl rfl rfl rfl rfl trivial ?_
    refine c1 (step_any C t ws hl.c hl.ok.pc hws hl.ok.told p hp) [4, 5, 1] [4, 5, 1, 87] 122 87 6 rfl rfl rfl rfl rfl rfl rfl rfl Tryd.func45 rfl rfl rfl rfl ⟨rfl, rfl, rfl, trivial⟩ rfl rfl ?_
    refine e1 95 rfl ?_
    refine keep [2, 7, 8, 11, 12, 13, 14, 45, 46, 47] rfl ?_
    refine cval 7 (.sl 1 0 p.2.length) rfl (by rw [hlen]) ?_
    refine r1 ?_
    refine s1 123 95 1 rfl rfl rfl rfl rfl rfl trivial ?_
    refine s1 124 103 2 rfl rfl rfl rfl rfl rfl trivial ?_
    refine s1 125 111 3 rfl rfl rfl rfl rfl rfl trivial ?_
    refine s1 126 119 4 rfl rfl rfl rfl rfl rfl (by first | trivial | omega) ?_
    refine s1 127 127 5 rfl rfl rfl rfl rfl rfl trivial ?_
    refine s1 128 135 6 rfl rfl rfl rfl rfl rfl trivial ?_
    refine s1 129 143 7 rfl rfl rfl rfl rfl rfl (by first | trivial | omega) ?_
    refine e1 151 rfl ?_
    refine keep [2, 7, 8, 11, 12, 13, 14, 45, 46, 47, 129] rfl ?_
    refine q1 rfl (fun hc26 => ?_) (fun hc26 => ?_)
    · skip
      try simp only [cs, ne_eq] at hc26
      refine cfreeze 4 26 87 p.1.told.length rfl rfl rfl (Nat.le_refl _) rfl ?_
      refine rd1 rfl ?_
      refine d1 130 151 1 rfl rfl rfl rfl rfl rfl trivial ?_
      refine d1 131 159 2 rfl rfl rfl rfl rfl rfl trivial ?_
      refine d1 132 167 3 rfl rfl rfl rfl rfl rfl trivial ?_
      refine d1 133 175 4 rfl rfl rfl rfl rfl rfl trivial ?_
      refine d1 134 183 5 rfl rfl rfl rfl rfl rfl trivial ?_
      refine d1 135 191 6 rfl rfl rfl rfl rfl rfl trivial ?_
      refine d1 136 199 7 rfl rfl rfl rfl rfl rfl (by first | trivial | omega) ?_
      refine dA 137 207 8 rfl rfl rfl rfl rfl rfl rfl rfl rfl (by unfold inRange; omega) ?_
      refine d1 138 215 9 rfl rfl rfl rfl rfl rfl trivial ?_
      refine d1 139 223 10 rfl rfl rfl rfl rfl rfl trivial ?_
      refine d1 140 231 11 rfl rfl rfl rfl rfl rfl trivial ?_
      refine d1 141 239 12 rfl rfl rfl rfl rfl rfl (by first | trivial | omega) ?_
      refine d1 142 247 13 rfl rfl rfl rfl rfl rfl trivial ?_
      refine d1 143 255 14 rfl rfl rfl rfl rfl rfl trivial ?_
      refine d1 144 263 15 rfl rfl rfl rfl rfl rfl (by first | trivial | omega) ?_
      refine d1 145 271 16 rfl rfl rfl rfl rfl rfl trivial ?_
      refine d1 146 279 17 rfl rfl rfl rfl rfl rfl trivial ?_
      refine d1 147 287 18 rfl rfl rfl rfl rfl rfl trivial ?_
      refine d1 148 295 19 rfl rfl rfl rfl rfl rfl (by first | trivial | omega) ?_
      refine d1 149 303 20 rfl rfl rfl rfl rfl rfl trivial ?_
      refine d1 150 311 21 rfl rfl rfl rfl rfl rfl trivial ?_
      refine d1 151 319 22 rfl rfl rfl rfl rfl rfl (by first | trivial | omega) ?_
      refine d1 152 327 23 rfl rfl rfl rfl rfl rfl trivial ?_
      refine d1 153 335 24 rfl rfl rfl rfl rfl rfl trivial ?_
      refine d1 154 343 25 rfl rfl rfl rfl rfl rfl ⟨Nat.le_refl _, trivial, (by show (out.length + 1) * 64 ≤ 140737488355328; omega), (by simp only [maxLen]; omega)⟩ ?_
      refine d1 11 351 26 rfl rfl rfl rfl rfl rfl trivial ?_
      refine de1 359 rfl (by kernel_rfl) ?_
      refine keep [2, 7, 8, 11, 14, 45, 46, 47] rfl ?_
      refine rowsc 343 (out ++ [(Ev.mk step j (nx - 1) true p.1.e p.1.told)]).length (evF (out ++ [(Ev.mk step j (nx - 1) true p.1.e p.1.told)])) rfl (by simp) (fun i c hi hc => ev_cat out _ _ _ _ _ _ i c hi hc) ?_
      refine cval 11 (.sl 343 0 (out ++ [(Ev.mk step j (nx - 1) true p.1.e p.1.told)]).length) rfl (by simp) ?_
      refine r0 ?_
      refine s1 155 359 1 rfl rfl rfl rfl rfl rfl trivial ?_
      refine s1 156 367 2 rfl rfl rfl rfl rfl rfl trivial ?_
      refine s1 157 375 3 rfl rfl rfl rfl rfl rfl trivial ?_
      refine s0 383 4 rfl rfl rfl rfl rfl (by first | trivial | omega) ?_
      refine e1 391 rfl ?_
      exact ⟨[(2, .ptr 0 0 0), (7, .sl 1 0 p.2.length), (8, .sl 6 0 nt), (11, .sl 7 0 (out ++ [(Ev.mk step j (nx - 1) true p.1.e p.1.told)]).length), (45, intsV sc), (46, SV.i sc.length), (47, SV.i k)], [some (machBlk q), some (intsB p.2), none, some (.cells 83 3 [callV cs, SV.i nx, .d (.val (.pointer none))]), none, none, none, some (evB (out ++ [(Ev.mk step j (nx - 1) true p.1.e p.1.told)]))], [0, 1, 2, 3, 4, 5, 6, 343], .inr ⟨hc26, rfl, rfl, rfl⟩, rfl, rfl, ⟨rfl, rfl, rfl, rfl, rfl, rfl, rfl, trivial⟩, ⟨rfl, rfl, rfl, rfl, trivial⟩⟩
    · skip
      try simp only [cs, ne_eq] at hc26
      refine W_skip ?_
      exact ⟨[(2, .ptr 0 0 0), (7, .sl 1 0 p.2.length), (8, .sl 6 0 nt), (11, .sl 2 0 out.length), (45, intsV sc), (46, SV.i sc.length), (47, SV.i k)], [some (machBlk q), some (intsB p.2), some (evB out), some (.cells 83 3 [callV cs, SV.i nx, .ptr 4 0 0]), some (thrYB 7 C p.1), none, none, some (intsB p.1.told)], [0, 1, 2, 3, 4, 5, 6, 87], .inl ⟨hc26, rfl, rfl, rfl⟩, rfl, rfl, ⟨rfl, rfl, rfl, rfl, rfl, rfl, rfl, trivial⟩, ⟨rfl, rfl, rfl, rfl, rfl, rfl, trivial⟩⟩

end Go.Proofs.YtnnjobmiepnedaaDoor.Nice
