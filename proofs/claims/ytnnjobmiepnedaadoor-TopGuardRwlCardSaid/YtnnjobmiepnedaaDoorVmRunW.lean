/- The program's runs of codes. -/
import Derived.Test.YtnnjobmiepnedaaDoorVmRunP
namespace Go.Proofs.YtnnjobmiepnedaaDoor.Nice
open Go
set_option linter.unusedVariables false
set_option linter.unusedSimpArgs false
set_option maxRecDepth 100000
set_option maxHeartbeats 4000000

theorem begin_any (C : List Ins) (l : List Int) (hl : l.length ≤ 8) : Spec Tryd.prog GV 44 [insV C, intsV l] [] (fun r ho => r = .ptr 0 0 0 ∧ ho = [some (.cells 88 29 (thrX (insV C) (fun j => l.getD j 0) 0 (.d .nils) 0 ((C.length : Int) == 0)))]) := by
  refine start 22 0 Tryd.func44 rfl rfl rfl rfl ?_
  refine r1 ?_
  refine s1 4 0 1 rfl rfl rfl rfl rfl rfl trivial ?_
  refine e1 8 rfl ?_
  refine keep [0, 1] rfl ?_
  refine r1 ?_
  refine s1 6 8 1 rfl rfl rfl rfl rfl rfl trivial ?_
  refine s1 7 16 2 rfl rfl rfl rfl rfl rfl trivial ?_
  refine s1 8 24 3 rfl rfl rfl rfl rfl rfl trivial ?_
  refine s1 5 32 4 rfl rfl rfl rfl rfl rfl trivial ?_
  refine e1 40 rfl ?_
  refine keep [0, 1, 5] rfl ?_
  refine r1 ?_
  refine s1 9 40 1 rfl rfl rfl rfl rfl rfl trivial ?_
  refine s1 10 48 2 rfl rfl rfl rfl rfl rfl trivial ?_
  refine s1 11 56 3 rfl rfl rfl rfl rfl rfl trivial ?_
  refine sArr 12 64 4 rfl rfl rfl rfl rfl rfl rfl rfl rfl ?_
  refine s1 13 72 5 rfl rfl rfl rfl rfl rfl trivial ?_
  refine sCopy (thrX_copy (insV C) 0 (.d .nils) 0 false l hl) 14 80 6 rfl rfl rfl rfl rfl rfl rfl rfl rfl (by rfl) rfl rfl ?_
  refine e1 88 rfl ?_
  refine keep [0, 5] rfl ?_
  refine r1 ?_
  refine s1 15 88 1 rfl rfl rfl rfl rfl rfl trivial ?_
  refine s1 16 96 2 rfl rfl rfl rfl rfl rfl trivial ?_
  refine s1 17 104 3 rfl rfl rfl rfl rfl rfl (by first | trivial | omega) ?_
  refine s1 18 112 4 rfl rfl rfl rfl rfl rfl (by first | trivial | omega) ?_
  refine s1 19 120 5 rfl rfl rfl rfl rfl rfl trivial ?_
  refine s1 20 128 6 rfl rfl rfl rfl rfl rfl trivial ?_
  refine s0 136 7 rfl rfl rfl rfl rfl (by first | trivial | omega) ?_
  refine e1 144 rfl ?_
  refine keep [5] rfl ?_
  refine r1 ?_
  refine s1 21 144 1 rfl rfl rfl rfl rfl rfl trivial ?_
  refine s1 4 152 2 rfl rfl rfl rfl rfl rfl trivial ?_
  refine e1 160 rfl ?_
  refine keep [4] rfl ?_
  refine W_ret ?_
  exact out1 4 (.ptr 0 0 0) (π := [24]) (hout := [some (.cells 88 29 (thrX (insV C) (fun j => l.getD j 0) 0 (.d .nils) 0 ((C.length : Int) == 0)))]) Tryd.results44 rfl rfl rfl rfl ⟨rfl, trivial⟩ ⟨rfl, rfl⟩

theorem clone_any (l : List Int) (hl : l.length ≤ 1048576) : Spec Tryd.prog GV 43 [intsV l] [] (fun r ho => r = .sl 0 0 l.length ∧ ho = [some (intsB l)]) := by
  refine start 8 0 Tryd.func43 rfl rfl rfl rfl ?_
  refine r1 ?_
  refine s1 2 0 1 rfl rfl rfl rfl rfl rfl trivial ?_
  refine e1 8 rfl ?_
  refine keep [0] rfl ?_
  refine W_seq ?_
  refine r1 ?_
  refine s1 3 8 1 rfl rfl rfl rfl rfl rfl trivial ?_
  refine sNilQ 4 16 2 rfl rfl rfl rfl rfl rfl rfl rfl (fun b hb => ?_)
  refine e1 24 rfl ?_
  refine keep [0, 4] rfl ?_
  refine q1 rfl (fun hc1 => ?_) (fun hc1 => ?_)
  · skip
    try simp only [cs, ne_eq] at hc1
    obtain rfl : l = [] := List.length_eq_zero_iff.1 (hb hc1)
    refine r1 ?_
    refine s1 2 24 1 rfl rfl rfl rfl rfl rfl trivial ?_
    refine e1 32 rfl ?_
    refine keep [2] rfl ?_
    refine ghostly 2 3 1 (intsF []) rfl ?_
    refine W_ret ?_
    refine tr ?_
    exact out1 2 (.sl 0 0 0) (π := [32]) (hout := [some (intsB [])]) Tryd.results43 rfl rfl rfl rfl ⟨rfl, trivial⟩ ⟨rfl, rfl⟩
  · skip
    try simp only [cs, ne_eq] at hc1
    refine W_skip ?_
    refine tn ?_
    refine r1 ?_
    refine s1 5 24 1 rfl rfl rfl rfl rfl rfl trivial ?_
    refine s1 6 32 2 rfl rfl rfl rfl rfl rfl trivial ?_
    refine s1 7 40 3 rfl rfl rfl rfl rfl rfl ⟨trivial, (by show l.length * 8 ≤ 140737488355328; omega), (by simp only [maxLen]; omega)⟩ ?_
    refine s1 2 48 4 rfl rfl rfl rfl rfl rfl trivial ?_
    refine e1 56 rfl ?_
    refine keep [2] rfl ?_
    refine W_ret ?_
    exact out1 2 (.sl 0 0 l.length) (π := [40]) (hout := [some (intsB l)]) Tryd.results43 rfl rfl rfl rfl ⟨rfl, trivial⟩ ⟨rfl, rfl⟩

theorem vran_form {C : List Ins} {l ws : List Int} {n : Int} (h : mayB C = false) : vran C l ws n = ⟨[], [], 0, 4⟩ := by unfold vran; rw [if_pos h]
theorem vran_size {C : List Ins} {l ws : List Int} {n : Int} (h : mayB C = true) (h2 : 8 < l.length ∨ 200 < ws.length) : vran C l ws n = ⟨[], [], 0, 1⟩ := by unfold vran; rw [if_neg (by rw [h]; decide), if_pos h2]
theorem vran_range {C : List Ins} {l ws : List Int} {n : Int} (h : mayB C = true) (h2 : ¬ (8 < l.length ∨ 200 < ws.length)) (h3 : n < 0 ∨ 6000 < n) : vran C l ws n = ⟨[], [], 0, 2⟩ := by unfold vran; rw [if_neg (by rw [h]; decide), if_neg h2, if_pos h3]
theorem vran_run {C : List Ins} {l ws : List Int} {n : Int} (h : mayB C = true) (h2 : ¬ (8 < l.length ∨ 200 < ws.length)) (h3 : ¬ (n < 0 ∨ 6000 < n)) {q : VRes} (hq : vresOf (vrun C n.toNat (vnew C l, ws)) = q) : vran C l ws n = q := by unfold vran; rw [if_neg (by rw [h]; decide), if_neg h2, if_neg h3, hq]


end Go.Proofs.YtnnjobmiepnedaaDoor.Nice
