/- The program's runs of codes. -/
import Derived.Test.YtdjphneoecebmaaDoorVmRunP
namespace Go.Proofs.YtdjphneoecebmaaDoor.Nice
open Go
set_option linter.unusedVariables false
set_option linter.unusedSimpArgs false
set_option maxRecDepth 100000
set_option maxHeartbeats 4000000

theorem begin_any (C : List Ins) (l : List Int) (hl : l.length ≤ 8) : Spec Tryd.prog GV 19 [insV C, intsV l] [] (fun r ho => r = .ptr 0 0 0 ∧ ho = [some (.cells 52 29 (thrX (insV C) (fun j => l.getD j 0) 0 (.d .nils) 0 ((C.length : Int) == 0)))]) := by
  refine start 22 0 Tryd.func19 rfl rfl rfl rfl ?_
  refine r1 ?_
  refine s1 4 0 1 rfl rfl rfl rfl rfl rfl trivial ?_
  refine e1 8 rfl ?_
  refine keep [0, 1] rfl ?_
  refine r1 ?_
  refine s1 6 8 1 rfl rfl rfl rfl rfl rfl trivial ?_
  refine s1 7 16 2 rfl rfl rfl rfl rfl rfl trivial ?_
  refine s1 8 24 3 rfl rfl rfl rfl rfl rfl trivial ?_
  refine s1 5 32 4 rfl rfl rfl rfl rfl rfl trivial ?_
  refine e1 40 rfl ?_
  refine keep [0, 1, 5] rfl ?_
  refine r1 ?_
  refine s1 9 40 1 rfl rfl rfl rfl rfl rfl trivial ?_
  refine s1 10 48 2 rfl rfl rfl rfl rfl rfl trivial ?_
  refine s1 11 56 3 rfl rfl rfl rfl rfl rfl trivial ?_
  refine sArr 12 64 4 rfl rfl rfl rfl rfl rfl rfl rfl rfl ?_
  refine s1 13 72 5 rfl rfl rfl rfl rfl rfl trivial ?_
  refine sCopy (thrX_copy (insV C) 0 (.d .nils) 0 false l hl) 14 80 6 rfl rfl rfl rfl rfl rfl rfl rfl rfl (by rfl) rfl rfl ?_
  refine e1 88 rfl ?_
  refine keep [0, 5] rfl ?_
  refine r1 ?_
  refine s1 15 88 1 rfl rfl rfl rfl rfl rfl trivial ?_
  refine s1 16 96 2 rfl rfl rfl rfl rfl rfl trivial ?_
  refine s1 17 104 3 rfl rfl rfl rfl rfl rfl (by first | trivial | omega) ?_
  refine s1 18 112 4 rfl rfl rfl rfl rfl rfl (by first | trivial | omega) ?_
  refine s1 19 120 5 rfl rfl rfl rfl rfl rfl trivial ?_
  refine s1 20 128 6 rfl rfl rfl rfl rfl rfl trivial ?_
  refine s0 136 7 rfl rfl rfl rfl rfl (by first | trivial | omega) ?_
  refine e1 144 rfl ?_
  refine keep [5] rfl ?_
  refine r1 ?_
  refine s1 21 144 1 rfl rfl rfl rfl rfl rfl trivial ?_
  refine s1 4 152 2 rfl rfl rfl rfl rfl rfl trivial ?_
  refine e1 160 rfl ?_
  refine keep [4] rfl ?_
  refine W_ret ?_
  exact out1 4 (.ptr 0 0 0) (π := [24]) (hout := [some (.cells 52 29 (thrX (insV C) (fun j => l.getD j 0) 0 (.d .nils) 0 ((C.length : Int) == 0)))]) Tryd.results19 rfl rfl rfl rfl ⟨rfl, trivial⟩ ⟨rfl, rfl⟩

theorem clone_any (l : List Int) (hl : l.length ≤ 1048576) : Spec Tryd.prog GV 20 [intsV l] [] (fun r ho => r = .sl 0 0 l.length ∧ ho = [some (intsB l)]) := by
  refine start 8 0 Tryd.func20 rfl rfl rfl rfl ?_
  refine r1 ?_
  refine s1 2 0 1 rfl rfl rfl rfl rfl rfl trivial ?_
  refine e1 8 rfl ?_
  refine keep [0] rfl ?_
  refine W_seq ?_
  refine r1 ?_
  refine s1 3 8 1 rfl rfl rfl rfl rfl rfl trivial ?_
  refine sNilQ 4 16 2 rfl rfl rfl rfl rfl rfl rfl rfl (fun b hb => ?_)
  refine e1 24 rfl ?_
  refine keep [0, 4] rfl ?_
  refine q1 rfl (fun hc1 => ?_) (fun hc1 => ?_)
  · skip
    try simp only [cs, ne_eq] at hc1
    obtain rfl : l = [] := List.length_eq_zero_iff.1 (hb hc1)
    refine r1 ?_
    refine s1 2 24 1 rfl rfl rfl rfl rfl rfl trivial ?_
    refine e1 32 rfl ?_
    refine keep [2] rfl ?_
    refine ghostly 2 3 1 (intsF []) rfl ?_
    refine W_ret ?_
    refine tr ?_
    exact out1 2 (.sl 0 0 0) (π := [32]) (hout := [some (intsB [])]) Tryd.results20 rfl rfl rfl rfl ⟨rfl, trivial⟩ ⟨rfl, rfl⟩
  try simp only [cs, ne_eq] at hc1
  refine W_skip ?_
  refine tn ?_
  refine r1 ?_
  refine s1 5 24 1 rfl rfl rfl rfl rfl rfl trivial ?_
  refine s1 6 32 2 rfl rfl rfl rfl rfl rfl trivial ?_
  refine s1 7 40 3 rfl rfl rfl rfl rfl rfl ⟨trivial, (by show l.length * 8 ≤ 140737488355328; omega), (by simp only [maxLen]; omega)⟩ ?_
  refine s1 2 48 4 rfl rfl rfl rfl rfl rfl trivial ?_
  refine e1 56 rfl ?_
  refine keep [2] rfl ?_
  refine W_ret ?_
  exact out1 2 (.sl 0 0 l.length) (π := [40]) (hout := [some (intsB l)]) Tryd.results20 rfl rfl rfl rfl ⟨rfl, trivial⟩ ⟨rfl, rfl⟩

theorem vran_form {C : List Ins} {l ws : List Int} {n : Int} (h : mayB C = false) : vran C l ws n = ⟨[], [], 0, 4⟩ := by unfold vran; rw [if_pos h]
theorem vran_size {C : List Ins} {l ws : List Int} {n : Int} (h : mayB C = true) (h2 : 8 < l.length ∨ 200 < ws.length) : vran C l ws n = ⟨[], [], 0, 1⟩ := by unfold vran; rw [if_neg (by rw [h]; decide), if_pos h2]
theorem vran_range {C : List Ins} {l ws : List Int} {n : Int} (h : mayB C = true) (h2 : ¬ (8 < l.length ∨ 200 < ws.length)) (h3 : n < 0 ∨ 6000 < n) : vran C l ws n = ⟨[], [], 0, 2⟩ := by unfold vran; rw [if_neg (by rw [h]; decide), if_neg h2, if_pos h3]
theorem vran_run {C : List Ins} {l ws : List Int} {n : Int} (h : mayB C = true) (h2 : ¬ (8 < l.length ∨ 200 < ws.length)) (h3 : ¬ (n < 0 ∨ 6000 < n)) {q : VRes} (hq : vresOf (vrun C n.toNat (vnew C l, ws)) = q) : vran C l ws n = q := by unfold vran; rw [if_neg (by rw [h]; decide), if_neg h2, if_neg h3, hq]

theorem run_any (C : List Ins) (l ws : List Int) (lim : Int) (hCl : C.length ≤ 9223372036854775807) (hll : l.length ≤ 9223372036854775807) (hwl : ws.length ≤ 9223372036854775807) (q : VRes) (hp : vran C l ws lim = q) : Spec Tryd.prog GV 9 [insV C, intsV l, intsV ws, SV.i lim] [] (fun r ho => r = SV.tup [intsV q.told, intsV q.after, SV.i q.n, SV.i q.e] ∧ ho = []) := by
  refine start 71 0 Tryd.func9 rfl rfl rfl rfl ?_
  refine r1 ?_
  refine s1 8 0 1 rfl rfl rfl rfl rfl rfl trivial ?_
  refine s1 9 8 2 rfl rfl rfl rfl rfl rfl trivial ?_
  refine s1 10 16 3 rfl rfl rfl rfl rfl rfl trivial ?_
  refine s1 11 24 4 rfl rfl rfl rfl rfl rfl trivial ?_
  refine e1 32 rfl ?_
  refine keep [0, 1, 2, 3, 10] rfl ?_
  refine W_seq ?_
  refine W_block ?_
  refine r1 ?_
  refine s1 14 32 1 rfl rfl rfl rfl rfl rfl trivial ?_
  refine c1 (may_any C hCl) [] [] 15 40 2 rfl rfl rfl rfl rfl rfl rfl rfl Tryd.func7 rfl rfl rfl rfl trivial rfl rfl ?_
  refine s1 16 48 3 rfl rfl rfl rfl rfl rfl trivial ?_
  refine s1 13 56 4 rfl rfl rfl rfl rfl rfl trivial ?_
  refine e1 64 rfl ?_
  refine keep [0, 1, 2, 3, 10, 13] rfl ?_
  refine q1 rfl (fun hc1 => ?_) (fun hc1 => ?_)
  · skip
    try simp only [cs, ne_eq] at hc1
    refine r1 ?_
    refine s1 8 64 1 rfl rfl rfl rfl rfl rfl trivial ?_
    refine s1 9 72 2 rfl rfl rfl rfl rfl rfl trivial ?_
    refine s1 10 80 3 rfl rfl rfl rfl rfl rfl trivial ?_
    refine s1 11 88 4 rfl rfl rfl rfl rfl rfl trivial ?_
    refine e1 96 rfl ?_
    refine keep [8, 9, 10, 11] rfl ?_
    refine nilv 8 1 (intsF []) rfl ?_
    refine nilv 9 1 (intsF []) rfl ?_
    refine W_ret ?_
    refine br ?_
    refine tr ?_
    have hq := hp.symm.trans (vran_form hc1)
    exact outN (SV.tup [intsV q.told, intsV q.after, SV.i q.n, SV.i q.e]) (π := []) (hout := []) Tryd.results9 rfl (by trivial) (by rw [hq]; rfl) rfl rfl trivial ⟨rfl, rfl⟩
  try simp only [cs, ne_eq] at hc1
  refine r1 ?_
  refine s1 18 64 1 rfl rfl rfl rfl rfl rfl trivial ?_
  refine s1 19 72 2 rfl rfl rfl rfl rfl rfl (by first | trivial | omega) ?_
  refine s1 20 80 3 rfl rfl rfl rfl rfl rfl (by first | trivial | omega) ?_
  refine s1 21 88 4 rfl rfl rfl rfl rfl rfl trivial ?_
  refine ask 21 rfl (fun hg3_21 => ?_) (fun hg3_21 => ?_)
  · skip
    try simp only [cs, ne_eq] at hg3_21
    refine g0 3 false 21 22 5 rfl rfl rfl rfl rfl rfl ?_
    refine g0 3 false 21 23 6 rfl rfl rfl rfl rfl rfl ?_
    refine g0 3 false 21 24 7 rfl rfl rfl rfl rfl rfl ?_
    refine s1 25 120 8 rfl rfl rfl rfl rfl rfl trivial ?_
    refine s1 17 128 9 rfl rfl rfl rfl rfl rfl trivial ?_
    refine e1 136 rfl ?_
    refine keep [0, 1, 2, 3, 10, 17] rfl ?_
    refine q1 rfl (fun hc3 => ?_) (fun hc3 => ?_)
    · skip
      try simp only [cs, ne_eq] at hc3
      refine r1 ?_
      refine s1 8 136 1 rfl rfl rfl rfl rfl rfl trivial ?_
      refine s1 9 144 2 rfl rfl rfl rfl rfl rfl trivial ?_
      refine s1 10 152 3 rfl rfl rfl rfl rfl rfl trivial ?_
      refine s1 11 160 4 rfl rfl rfl rfl rfl rfl trivial ?_
      refine e1 168 rfl ?_
      refine keep [8, 9, 10, 11] rfl ?_
      refine nilv 8 1 (intsF []) rfl ?_
      refine nilv 9 1 (intsF []) rfl ?_
      refine W_ret ?_
      refine br ?_
      refine tr ?_
      have hq := hp.symm.trans (vran_size hc1 (by omega))
      exact outN (SV.tup [intsV q.told, intsV q.after, SV.i q.n, SV.i q.e]) (π := []) (hout := []) Tryd.results9 rfl (by trivial) (by rw [hq]; rfl) rfl rfl trivial ⟨rfl, rfl⟩
    exact absurd hc3 (by decide)
  try simp only [cs, ne_eq] at hg3_21
  refine g1 3 false 21 22 5 rfl rfl rfl rfl rfl ?_
  refine s1 22 96 5 rfl rfl rfl rfl rfl rfl trivial ?_
  refine g1 3 false 21 23 6 rfl rfl rfl rfl rfl ?_
  refine s1 23 104 6 rfl rfl rfl rfl rfl rfl (by first | trivial | omega) ?_
  refine g1 3 false 21 24 7 rfl rfl rfl rfl rfl ?_
  refine s1 24 112 7 rfl rfl rfl rfl rfl rfl (by first | trivial | omega) ?_
  refine s1 25 120 8 rfl rfl rfl rfl rfl rfl trivial ?_
  refine s1 17 128 9 rfl rfl rfl rfl rfl rfl trivial ?_
  refine e1 136 rfl ?_
  refine keep [0, 1, 2, 3, 10, 17] rfl ?_
  refine q1 rfl (fun hc3 => ?_) (fun hc3 => ?_)
  · skip
    try simp only [cs, ne_eq] at hc3
    refine r1 ?_
    refine s1 8 136 1 rfl rfl rfl rfl rfl rfl trivial ?_
    refine s1 9 144 2 rfl rfl rfl rfl rfl rfl trivial ?_
    refine s1 10 152 3 rfl rfl rfl rfl rfl rfl trivial ?_
    refine s1 11 160 4 rfl rfl rfl rfl rfl rfl trivial ?_
    refine e1 168 rfl ?_
    refine keep [8, 9, 10, 11] rfl ?_
    refine nilv 8 1 (intsF []) rfl ?_
    refine nilv 9 1 (intsF []) rfl ?_
    refine W_ret ?_
    refine br ?_
    refine tr ?_
    have hq := hp.symm.trans (vran_size hc1 (by omega))
    exact outN (SV.tup [intsV q.told, intsV q.after, SV.i q.n, SV.i q.e]) (π := []) (hout := []) Tryd.results9 rfl (by trivial) (by rw [hq]; rfl) rfl rfl trivial ⟨rfl, rfl⟩
  try simp only [cs, ne_eq] at hc3
  refine r1 ?_
  refine s1 27 136 1 rfl rfl rfl rfl rfl rfl trivial ?_
  refine s1 28 144 2 rfl rfl rfl rfl rfl rfl (by first | trivial | omega) ?_
  refine s1 29 152 3 rfl rfl rfl rfl rfl rfl trivial ?_
  refine ask 29 rfl (fun hg5_29 => ?_) (fun hg5_29 => ?_)
  · skip
    try simp only [cs, ne_eq] at hg5_29
    refine g0 2 false 29 30 4 rfl rfl rfl rfl rfl rfl ?_
    refine g0 2 false 29 31 5 rfl rfl rfl rfl rfl rfl ?_
    refine s1 32 176 6 rfl rfl rfl rfl rfl rfl trivial ?_
    refine s1 26 184 7 rfl rfl rfl rfl rfl rfl trivial ?_
    refine e1 192 rfl ?_
    refine keep [0, 1, 2, 3, 10, 26] rfl ?_
    refine q1 rfl (fun hc5 => ?_) (fun hc5 => ?_)
    · skip
      try simp only [cs, ne_eq] at hc5
      refine r1 ?_
      refine s1 8 192 1 rfl rfl rfl rfl rfl rfl trivial ?_
      refine s1 9 200 2 rfl rfl rfl rfl rfl rfl trivial ?_
      refine s1 10 208 3 rfl rfl rfl rfl rfl rfl trivial ?_
      refine s1 11 216 4 rfl rfl rfl rfl rfl rfl trivial ?_
      refine e1 224 rfl ?_
      refine keep [8, 9, 10, 11] rfl ?_
      refine nilv 8 1 (intsF []) rfl ?_
      refine nilv 9 1 (intsF []) rfl ?_
      refine W_ret ?_
      refine br ?_
      refine tr ?_
      have hq := hp.symm.trans (vran_range hc1 (by omega) (by omega))
      exact outN (SV.tup [intsV q.told, intsV q.after, SV.i q.n, SV.i q.e]) (π := []) (hout := []) Tryd.results9 rfl (by trivial) (by rw [hq]; rfl) rfl rfl trivial ⟨rfl, rfl⟩
    exact absurd hc5 (by decide)
  try simp only [cs, ne_eq] at hg5_29
  refine g1 2 false 29 30 4 rfl rfl rfl rfl rfl ?_
  refine s1 30 160 4 rfl rfl rfl rfl rfl rfl trivial ?_
  refine g1 2 false 29 31 5 rfl rfl rfl rfl rfl ?_
  refine s1 31 168 5 rfl rfl rfl rfl rfl rfl (by first | trivial | omega) ?_
  refine s1 32 176 6 rfl rfl rfl rfl rfl rfl trivial ?_
  refine s1 26 184 7 rfl rfl rfl rfl rfl rfl trivial ?_
  refine e1 192 rfl ?_
  refine keep [0, 1, 2, 3, 10, 26] rfl ?_
  refine q1 rfl (fun hc5 => ?_) (fun hc5 => ?_)
  · skip
    try simp only [cs, ne_eq] at hc5
    refine r1 ?_
    refine s1 8 192 1 rfl rfl rfl rfl rfl rfl trivial ?_
    refine s1 9 200 2 rfl rfl rfl rfl rfl rfl trivial ?_
    refine s1 10 208 3 rfl rfl rfl rfl rfl rfl trivial ?_
    refine s1 11 216 4 rfl rfl rfl rfl rfl rfl trivial ?_
    refine e1 224 rfl ?_
    refine keep [8, 9, 10, 11] rfl ?_
    refine nilv 8 1 (intsF []) rfl ?_
    refine nilv 9 1 (intsF []) rfl ?_
    refine W_ret ?_
    refine br ?_
    refine tr ?_
    have hq := hp.symm.trans (vran_range hc1 (by omega) (by omega))
    exact outN (SV.tup [intsV q.told, intsV q.after, SV.i q.n, SV.i q.e]) (π := []) (hout := []) Tryd.results9 rfl (by trivial) (by rw [hq]; rfl) rfl rfl trivial ⟨rfl, rfl⟩
  try simp only [cs, ne_eq] at hc5
  refine W_skip ?_
  refine bn ?_
  refine tn ?_
  refine r1 ?_
  refine s1 33 192 1 rfl rfl rfl rfl rfl rfl trivial ?_
  refine s1 34 200 2 rfl rfl rfl rfl rfl rfl trivial ?_
  refine c1 (begin_any C l (by omega)) [] [208] 35 208 3 rfl rfl rfl rfl rfl rfl rfl rfl Tryd.func19 rfl rfl rfl rfl trivial rfl rfl ?_
  refine s1 12 216 4 rfl rfl rfl rfl rfl rfl trivial ?_
  refine e1 224 rfl ?_
  refine keep [2, 3, 10, 12] rfl ?_
  refine r1 ?_
  refine s1 36 224 1 rfl rfl rfl rfl rfl rfl trivial ?_
  refine c1 (clone_any ws (by omega)) [] [232] 37 232 2 rfl rfl rfl rfl rfl rfl rfl rfl Tryd.func20 rfl rfl rfl rfl trivial rfl rfl ?_
  refine s1 9 240 3 rfl rfl rfl rfl rfl rfl trivial ?_
  refine e1 248 rfl ?_
  refine keep [3, 9, 10, 12] rfl ?_
  refine W_seq ?_
  refine W_block ?_
  have hC := hc1
  refine cghostly 208 26 3 1 (intsF []) rfl rfl rfl ?_
  refine loop (α := Nat × Thr × List Int) 3 (fun z => [(3, SV.i lim), (9, .sl 2 0 (z.2).2.length), (10, SV.i (z.1)), (12, .ptr 0 0 0)]) (fun z => [some (thrBlk C (z.2).1), some (intsB (z.2).1.told), some (intsB (z.2).2)]) (fun z => ((z.1) : Int) ≤ lim ∧ ThrOk C ws.length (z.2) ∧ vrun C lim.toNat (vnew C l, ws) = ((vrun C (lim.toNat - (z.1)) (z.2)).1 + (z.1), (vrun C (lim.toNat - (z.1)) (z.2)).2)) (fun z => lim.toNat - (z.1)) (((0, (vnew C l, ws)) : Nat × Thr × List Int)) [208, 248, 232] (fun _ => rfl) (show ((0) : Int) ≤ lim ∧ ThrOk C ws.length ((vnew C l, ws)) ∧ vrun C lim.toNat (vnew C l, ws) = ((vrun C (lim.toNat - (0)) ((vnew C l, ws))).1 + (0), (vrun C (lim.toNat - (0)) ((vnew C l, ws))).2) from ⟨by omega, vnew_ok, rfl⟩) rfl ⟨rfl, rfl, rfl, rfl, trivial⟩ ⟨rfl, rfl, rfl, trivial⟩ (fun z hx => ?_)
  obtain ⟨k, s⟩ := z
  show W _ _ _ ⟨tOf [(3, SV.i lim), (9, .sl 2 0 s.2.length), (10, SV.i k), (12, .ptr 0 0 0)], hOf [some (thrBlk C s.1), some (intsB s.1.told), some (intsB s.2)], 3⟩
  have hx : (k : Int) ≤ lim ∧ ThrOk C ws.length s ∧ vrun C lim.toNat (vnew C l, ws) = ((vrun C (lim.toNat - k) s).1 + k, (vrun C (lim.toNat - k) s).2) := hx
  obtain ⟨hk, hok, hrun⟩ := hx
  refine W_seq ?_
  refine r1 ?_
  refine s1 38 3 1 rfl rfl rfl rfl rfl rfl trivial ?_
  refine s1 39 11 2 rfl rfl rfl rfl rfl rfl trivial ?_
  refine s1 40 19 3 rfl rfl rfl rfl rfl rfl trivial ?_
  refine s1 41 27 4 rfl rfl rfl rfl rfl rfl (by first | trivial | omega) ?_
  refine s1 42 35 5 rfl rfl rfl rfl rfl rfl trivial ?_
  refine s1 43 43 6 rfl rfl rfl rfl rfl rfl trivial ?_
  refine ask 43 rfl (fun hg9_43 => ?_) (fun hg9_43 => ?_)
  · skip
    try simp only [cs, ne_eq] at hg9_43
    refine g1 5 true 43 44 7 rfl rfl rfl rfl rfl ?_
    refine s1 44 51 7 rfl rfl rfl rfl rfl rfl trivial ?_
    refine g1 5 true 43 45 8 rfl rfl rfl rfl rfl ?_
    refine s1 45 59 8 rfl rfl rfl rfl rfl rfl trivial ?_
    refine g1 5 true 43 46 9 rfl rfl rfl rfl rfl ?_
    refine s1 46 67 9 rfl rfl rfl rfl rfl rfl (by first | trivial | omega) ?_
    refine s1 47 75 10 rfl rfl rfl rfl rfl rfl trivial ?_
    refine e1 83 rfl ?_
    refine keep [3, 9, 10, 12, 47] rfl ?_
    refine q1 rfl (fun hc9 => ?_) (fun hc9 => ?_)
    · skip
      try simp only [cs, ne_eq] at hc9
      refine W_skip ?_
      refine tn ?_
      refine W_block ?_
      refine r1 ?_
      refine s1 48 83 1 rfl rfl rfl rfl rfl rfl trivial ?_
      refine s1 49 91 2 rfl rfl rfl rfl rfl rfl trivial ?_
      refine c1 (step_any C s.1 s.2 hC hok.pc (by rw [hok.ws]; omega) hok.told _ rfl) [0, 1, 2] [0, 1, 2, 99] 50 99 3 rfl rfl rfl rfl rfl rfl rfl rfl Tryd.func21 rfl rfl rfl rfl ⟨rfl, rfl, rfl, trivial⟩ rfl rfl ?_
      refine e1 107 rfl ?_
      refine keep [3, 9, 10, 12] rfl ?_
      refine cval 9 (.sl 2 0 (vstep C s.2 s.1).2.length) rfl (by rw [(vstep_ok hC hok).ws, hok.ws]) ?_
      refine r0 ?_
      refine s1 51 107 1 rfl rfl rfl rfl rfl rfl trivial ?_
      refine sA 52 115 2 rfl rfl rfl rfl rfl rfl rfl rfl rfl (by unfold inRange; omega) ?_
      refine s1 10 123 3 rfl rfl rfl rfl rfl rfl trivial ?_
      refine e1 131 rfl ?_
      refine bn ?_
      refine tn ?_
      exact again (((k + 1, vstep C s.2 s.1) : Nat × Thr × List Int)) [0, 99, 2] (show ((k + 1) : Int) ≤ lim ∧ ThrOk C ws.length (vstep C s.2 s.1) ∧ vrun C lim.toNat (vnew C l, ws) = ((vrun C (lim.toNat - (k + 1)) (vstep C s.2 s.1)).1 + (k + 1), (vrun C (lim.toNat - (k + 1)) (vstep C s.2 s.1)).2) from ⟨by omega, vstep_ok hC hok, (by rw [hrun, vrun_go hg9_43 (by omega), show lim.toNat - k - 1 = lim.toNat - (k + 1) by omega]; simp only [Nat.add_assoc, Nat.add_comm 1 k])⟩) (show lim.toNat - (k + 1) < lim.toNat - k from (by omega)) rfl ⟨rfl, rfl, rfl, rfl, trivial⟩ ⟨rfl, rfl, rfl, trivial⟩
    try simp only [cs, ne_eq] at hc9
    refine W_exit ?_
    refine tx ?_
    refine tx ?_
    refine bx ?_
    refine tn ?_
    refine W_seq ?_
    refine r1 ?_
    refine s1 53 83 1 rfl rfl rfl rfl rfl rfl trivial ?_
    refine s1 54 91 2 rfl rfl rfl rfl rfl rfl trivial ?_
    refine s1 55 99 3 rfl rfl rfl rfl rfl rfl trivial ?_
    refine s1 56 107 4 rfl rfl rfl rfl rfl rfl (by first | trivial | omega) ?_
    refine s1 57 115 5 rfl rfl rfl rfl rfl rfl trivial ?_
    refine e1 123 rfl ?_
    refine keep [9, 10, 12, 57] rfl ?_
    refine q1 rfl (fun hc12 => ?_) (fun hc12 => ?_)
    · skip
      try simp only [cs, ne_eq] at hc12
      refine r0 ?_
      refine s1 58 123 1 rfl rfl rfl rfl rfl rfl trivial ?_
      refine s1 59 131 2 rfl rfl rfl rfl rfl rfl trivial ?_
      refine s1 60 139 3 rfl rfl rfl rfl rfl rfl trivial ?_
      refine s0 147 4 rfl rfl rfl rfl rfl (by first | trivial | omega) ?_
      refine e1 155 rfl ?_
      refine tn ?_
      refine rd1 rfl ?_
      refine d1 61 155 1 rfl rfl rfl rfl rfl rfl trivial ?_
      refine d1 62 163 2 rfl rfl rfl rfl rfl rfl trivial ?_
      refine d1 63 171 3 rfl rfl rfl rfl rfl rfl trivial ?_
      refine d1 64 179 4 rfl rfl rfl rfl rfl rfl (by first | trivial | omega) ?_
      refine d1 65 187 5 rfl rfl rfl rfl rfl rfl trivial ?_
      refine d1 66 195 6 rfl rfl rfl rfl rfl rfl trivial ?_
      refine d1 67 203 7 rfl rfl rfl rfl rfl rfl trivial ?_
      refine d1 68 211 8 rfl rfl rfl rfl rfl rfl trivial ?_
      refine d1 69 219 9 rfl rfl rfl rfl rfl rfl trivial ?_
      refine d1 70 227 10 rfl rfl rfl rfl rfl rfl (by first | trivial | omega) ?_
      refine d1 8 235 11 rfl rfl rfl rfl rfl rfl trivial ?_
      refine d1 9 243 12 rfl rfl rfl rfl rfl rfl trivial ?_
      refine d1 10 251 13 rfl rfl rfl rfl rfl rfl trivial ?_
      refine d1 11 259 14 rfl rfl rfl rfl rfl rfl trivial ?_
      refine de1 267 rfl (by kernel_rfl) ?_
      refine keep [8, 9, 10, 11] rfl ?_
      refine freeze 8 1 s.1.told.length rfl rfl (Nat.le_refl _) ?_
      refine freeze 9 2 s.2.length rfl rfl (Nat.le_refl _) ?_
      refine W_ret ?_
      have hfin : vresOf (vrun C lim.toNat (vnew C l, ws)) = ⟨s.1.told, s.2, k, 11⟩ := (by rw [hrun, vrun_over (by first | exact .inl hg9_43 | (right; omega))]; unfold vresOf; simp only [Nat.zero_add]; rw [if_neg (by rw [hc12]; decide)])
      have hq := hp.symm.trans (vran_run hC (by omega) (by omega) hfin)
      exact outN (SV.tup [intsV q.told, intsV q.after, SV.i q.n, SV.i q.e]) (π := []) (hout := []) Tryd.results9 rfl (by trivial) (by rw [hq]; rfl) rfl rfl trivial ⟨rfl, rfl⟩
    try simp only [cs, ne_eq] at hc12
    refine W_skip ?_
    refine tn ?_
    refine rd1 rfl ?_
    refine d1 61 123 1 rfl rfl rfl rfl rfl rfl trivial ?_
    refine d1 62 131 2 rfl rfl rfl rfl rfl rfl trivial ?_
    refine d1 63 139 3 rfl rfl rfl rfl rfl rfl trivial ?_
    refine d1 64 147 4 rfl rfl rfl rfl rfl rfl (by first | trivial | omega) ?_
    refine d1 65 155 5 rfl rfl rfl rfl rfl rfl trivial ?_
    refine d1 66 163 6 rfl rfl rfl rfl rfl rfl trivial ?_
    refine d1 67 171 7 rfl rfl rfl rfl rfl rfl trivial ?_
    refine d1 68 179 8 rfl rfl rfl rfl rfl rfl trivial ?_
    refine d1 69 187 9 rfl rfl rfl rfl rfl rfl trivial ?_
    refine d1 70 195 10 rfl rfl rfl rfl rfl rfl (by first | trivial | omega) ?_
    refine d1 8 203 11 rfl rfl rfl rfl rfl rfl trivial ?_
    refine d1 9 211 12 rfl rfl rfl rfl rfl rfl trivial ?_
    refine d1 10 219 13 rfl rfl rfl rfl rfl rfl trivial ?_
    refine d1 11 227 14 rfl rfl rfl rfl rfl rfl trivial ?_
    refine de1 235 rfl (by kernel_rfl) ?_
    refine keep [8, 9, 10, 11] rfl ?_
    refine freeze 8 1 s.1.told.length rfl rfl (Nat.le_refl _) ?_
    refine freeze 9 2 s.2.length rfl rfl (Nat.le_refl _) ?_
    refine W_ret ?_
    have hfin : vresOf (vrun C lim.toNat (vnew C l, ws)) = ⟨s.1.told, s.2, k, s.1.e⟩ := (by rw [hrun, vrun_over (by first | exact .inl hg9_43 | (right; omega))]; unfold vresOf; simp only [Nat.zero_add]; rw [if_pos hc12])
    have hq := hp.symm.trans (vran_run hC (by omega) (by omega) hfin)
    exact outN (SV.tup [intsV q.told, intsV q.after, SV.i q.n, SV.i q.e]) (π := []) (hout := []) Tryd.results9 rfl (by trivial) (by rw [hq]; rfl) rfl rfl trivial ⟨rfl, rfl⟩
  try simp only [cs, ne_eq] at hg9_43
  refine g0 5 true 43 44 7 rfl rfl rfl rfl rfl rfl ?_
  refine g0 5 true 43 45 8 rfl rfl rfl rfl rfl rfl ?_
  refine g0 5 true 43 46 9 rfl rfl rfl rfl rfl rfl ?_
  refine s1 47 75 10 rfl rfl rfl rfl rfl rfl trivial ?_
  refine e1 83 rfl ?_
  refine keep [3, 9, 10, 12, 47] rfl ?_
  refine q1 rfl (fun hc9 => ?_) (fun hc9 => ?_)
  · skip
    exact absurd hc9 (by decide)
  try simp only [cs, ne_eq] at hc9
  refine W_exit ?_
  refine tx ?_
  refine tx ?_
  refine bx ?_
  refine tn ?_
  refine W_seq ?_
  refine r1 ?_
  refine s1 53 83 1 rfl rfl rfl rfl rfl rfl trivial ?_
  refine s1 54 91 2 rfl rfl rfl rfl rfl rfl trivial ?_
  refine s1 55 99 3 rfl rfl rfl rfl rfl rfl trivial ?_
  refine s1 56 107 4 rfl rfl rfl rfl rfl rfl (by first | trivial | omega) ?_
  refine s1 57 115 5 rfl rfl rfl rfl rfl rfl trivial ?_
  refine e1 123 rfl ?_
  refine keep [9, 10, 12, 57] rfl ?_
  refine q1 rfl (fun hc12 => ?_) (fun hc12 => ?_)
  · skip
    try simp only [cs, ne_eq] at hc12
    refine r0 ?_
    refine s1 58 123 1 rfl rfl rfl rfl rfl rfl trivial ?_
    refine s1 59 131 2 rfl rfl rfl rfl rfl rfl trivial ?_
    refine s1 60 139 3 rfl rfl rfl rfl rfl rfl trivial ?_
    refine s0 147 4 rfl rfl rfl rfl rfl (by first | trivial | omega) ?_
    refine e1 155 rfl ?_
    refine tn ?_
    refine rd1 rfl ?_
    refine d1 61 155 1 rfl rfl rfl rfl rfl rfl trivial ?_
    refine d1 62 163 2 rfl rfl rfl rfl rfl rfl trivial ?_
    refine d1 63 171 3 rfl rfl rfl rfl rfl rfl trivial ?_
    refine d1 64 179 4 rfl rfl rfl rfl rfl rfl (by first | trivial | omega) ?_
    refine d1 65 187 5 rfl rfl rfl rfl rfl rfl trivial ?_
    refine d1 66 195 6 rfl rfl rfl rfl rfl rfl trivial ?_
    refine d1 67 203 7 rfl rfl rfl rfl rfl rfl trivial ?_
    refine d1 68 211 8 rfl rfl rfl rfl rfl rfl trivial ?_
    refine d1 69 219 9 rfl rfl rfl rfl rfl rfl trivial ?_
    refine d1 70 227 10 rfl rfl rfl rfl rfl rfl (by first | trivial | omega) ?_
    refine d1 8 235 11 rfl rfl rfl rfl rfl rfl trivial ?_
    refine d1 9 243 12 rfl rfl rfl rfl rfl rfl trivial ?_
    refine d1 10 251 13 rfl rfl rfl rfl rfl rfl trivial ?_
    refine d1 11 259 14 rfl rfl rfl rfl rfl rfl trivial ?_
    refine de1 267 rfl (by kernel_rfl) ?_
    refine keep [8, 9, 10, 11] rfl ?_
    refine freeze 8 1 s.1.told.length rfl rfl (Nat.le_refl _) ?_
    refine freeze 9 2 s.2.length rfl rfl (Nat.le_refl _) ?_
    refine W_ret ?_
    have hfin : vresOf (vrun C lim.toNat (vnew C l, ws)) = ⟨s.1.told, s.2, k, 11⟩ := (by rw [hrun, vrun_over (by first | exact .inl hg9_43 | (right; omega))]; unfold vresOf; simp only [Nat.zero_add]; rw [if_neg (by rw [hc12]; decide)])
    have hq := hp.symm.trans (vran_run hC (by omega) (by omega) hfin)
    exact outN (SV.tup [intsV q.told, intsV q.after, SV.i q.n, SV.i q.e]) (π := []) (hout := []) Tryd.results9 rfl (by trivial) (by rw [hq]; rfl) rfl rfl trivial ⟨rfl, rfl⟩
  try simp only [cs, ne_eq] at hc12
  refine W_skip ?_
  refine tn ?_
  refine rd1 rfl ?_
  refine d1 61 123 1 rfl rfl rfl rfl rfl rfl trivial ?_
  refine d1 62 131 2 rfl rfl rfl rfl rfl rfl trivial ?_
  refine d1 63 139 3 rfl rfl rfl rfl rfl rfl trivial ?_
  refine d1 64 147 4 rfl rfl rfl rfl rfl rfl (by first | trivial | omega) ?_
  refine d1 65 155 5 rfl rfl rfl rfl rfl rfl trivial ?_
  refine d1 66 163 6 rfl rfl rfl rfl rfl rfl trivial ?_
  refine d1 67 171 7 rfl rfl rfl rfl rfl rfl trivial ?_
  refine d1 68 179 8 rfl rfl rfl rfl rfl rfl trivial ?_
  refine d1 69 187 9 rfl rfl rfl rfl rfl rfl trivial ?_
  refine d1 70 195 10 rfl rfl rfl rfl rfl rfl (by first | trivial | omega) ?_
  refine d1 8 203 11 rfl rfl rfl rfl rfl rfl trivial ?_
  refine d1 9 211 12 rfl rfl rfl rfl rfl rfl trivial ?_
  refine d1 10 219 13 rfl rfl rfl rfl rfl rfl trivial ?_
  refine d1 11 227 14 rfl rfl rfl rfl rfl rfl trivial ?_
  refine de1 235 rfl (by kernel_rfl) ?_
  refine keep [8, 9, 10, 11] rfl ?_
  refine freeze 8 1 s.1.told.length rfl rfl (Nat.le_refl _) ?_
  refine freeze 9 2 s.2.length rfl rfl (Nat.le_refl _) ?_
  refine W_ret ?_
  have hfin : vresOf (vrun C lim.toNat (vnew C l, ws)) = ⟨s.1.told, s.2, k, s.1.e⟩ := (by rw [hrun, vrun_over (by first | exact .inl hg9_43 | (right; omega))]; unfold vresOf; simp only [Nat.zero_add]; rw [if_pos hc12])
  have hq := hp.symm.trans (vran_run hC (by omega) (by omega) hfin)
  exact outN (SV.tup [intsV q.told, intsV q.after, SV.i q.n, SV.i q.e]) (π := []) (hout := []) Tryd.results9 rfl (by trivial) (by rw [hq]; rfl) rfl rfl trivial ⟨rfl, rfl⟩

end Go.Proofs.YtdjphneoecebmaaDoor.Nice
