/- A thread of the program, instruction by instruction. -/
import Derived.Test.YtnnjobmiepnedaaDoorZMVm
import Derived.Test.YtnnjobmiepnedaaDoorNiceS
namespace Go.Proofs.YtnnjobmiepnedaaDoor.Nice
open Go
set_option linter.unusedVariables false
set_option linter.unusedSimpArgs false
set_option maxRecDepth 100000
set_option maxHeartbeats 4000000

theorem flag_any (b : Bool) : Spec Tryd.prog GV 64 [SV.b b] [] (fun r ho => r = SV.i (boolI b) ∧ ho = []) := by
  refine start 4 0 Tryd.func64 rfl rfl rfl rfl ?_
  refine r1 ?_
  refine s1 2 0 1 rfl rfl rfl rfl rfl rfl trivial ?_
  refine e1 8 rfl ?_
  refine keep [0] rfl ?_
  refine W_seq ?_
  refine r1 ?_
  refine s1 3 8 1 rfl rfl rfl rfl rfl rfl trivial ?_
  refine e1 16 rfl ?_
  refine keep [3] rfl ?_
  refine q1 rfl (fun hc1 => ?_) (fun hc1 => ?_)
  · skip
    try simp only [cs, ne_eq] at hc1
    refine r1 ?_
    refine s1 2 16 1 rfl rfl rfl rfl rfl rfl trivial ?_
    refine e1 24 rfl ?_
    refine keep [2] rfl ?_
    refine W_ret ?_
    refine tr ?_
    exact out1 2 (SV.i (boolI b)) (π := []) (hout := []) Tryd.results64 rfl (by unfold boolI; rw [if_pos hc1]; rfl) rfl rfl trivial ⟨rfl, rfl⟩
  try simp only [cs, ne_eq] at hc1
  refine W_skip ?_
  refine tn ?_
  refine r1 ?_
  refine s1 2 16 1 rfl rfl rfl rfl rfl rfl trivial ?_
  refine e1 24 rfl ?_
  refine keep [2] rfl ?_
  refine W_ret ?_
  exact out1 2 (SV.i (boolI b)) (π := []) (hout := []) Tryd.results64 rfl (by unfold boolI; rw [if_neg (by rw [hc1]; decide)]; rfl) rfl rfl trivial ⟨rfl, rfl⟩

theorem quo_any (a b : Int) (q : Bool) : Spec Tryd.prog GV 63 [SV.i a, SV.i b, SV.b q] [] (fun r ho => r = SV.i (quoI a b q) ∧ ho = []) := by
  refine start 18 0 Tryd.func63 rfl rfl rfl rfl ?_
  refine r1 ?_
  refine s1 6 0 1 rfl rfl rfl rfl rfl rfl trivial ?_
  refine e1 8 rfl ?_
  refine keep [0, 1, 2] rfl ?_
  refine W_seq ?_
  refine W_block ?_
  refine r1 ?_
  refine s1 8 8 1 rfl rfl rfl rfl rfl rfl trivial ?_
  refine s1 9 16 2 rfl rfl rfl rfl rfl rfl (by first | trivial | omega) ?_
  refine s1 7 24 3 rfl rfl rfl rfl rfl rfl trivial ?_
  refine e1 32 rfl ?_
  refine keep [0, 1, 2, 7] rfl ?_
  refine q1 rfl (fun hc1 => ?_) (fun hc1 => ?_)
  · skip
    try simp only [cs, ne_eq] at hc1
    refine r1 ?_
    refine s1 6 32 1 rfl rfl rfl rfl rfl rfl trivial ?_
    refine e1 40 rfl ?_
    refine keep [6] rfl ?_
    refine W_ret ?_
    refine br ?_
    refine tr ?_
    exact out1 6 (SV.i (quoI a b q)) (π := []) (hout := []) Tryd.results63 rfl (by unfold quoI; rw [if_pos hc1]; rfl) rfl rfl trivial ⟨rfl, rfl⟩
  try simp only [cs, ne_eq] at hc1
  refine r1 ?_
  refine s1 11 32 1 rfl rfl rfl rfl rfl rfl trivial ?_
  refine s1 10 40 2 rfl rfl rfl rfl rfl rfl trivial ?_
  refine e1 48 rfl ?_
  refine keep [0, 1, 10] rfl ?_
  refine q1 rfl (fun hc3 => ?_) (fun hc3 => ?_)
  · skip
    try simp only [cs, ne_eq] at hc3
    refine r1 ?_
    refine s1 12 48 1 rfl rfl rfl rfl rfl rfl trivial ?_
    refine s1 13 56 2 rfl rfl rfl rfl rfl rfl trivial ?_
    refine s1 14 64 3 rfl rfl rfl rfl rfl rfl hc1 ?_
    refine s1 6 72 4 rfl rfl rfl rfl rfl rfl trivial ?_
    refine e1 80 rfl ?_
    refine keep [6] rfl ?_
    refine W_ret ?_
    refine br ?_
    refine tr ?_
    exact out1 6 (SV.i (quoI a b q)) (π := []) (hout := []) Tryd.results63 rfl (by unfold quoI; rw [if_neg hc1, if_pos hc3]; rfl) rfl rfl trivial ⟨rfl, rfl⟩
  try simp only [cs, ne_eq] at hc3
  refine W_skip ?_
  refine bn ?_
  refine tn ?_
  refine r1 ?_
  refine s1 15 48 1 rfl rfl rfl rfl rfl rfl trivial ?_
  refine s1 16 56 2 rfl rfl rfl rfl rfl rfl trivial ?_
  refine s1 17 64 3 rfl rfl rfl rfl rfl rfl hc1 ?_
  refine s1 6 72 4 rfl rfl rfl rfl rfl rfl trivial ?_
  refine e1 80 rfl ?_
  refine keep [6] rfl ?_
  refine W_ret ?_
  exact out1 6 (SV.i (quoI a b q)) (π := []) (hout := []) Tryd.results63 rfl (by unfold quoI; rw [if_neg hc1, if_neg (by rw [hc3]; decide)]; rfl) rfl rfl trivial ⟨rfl, rfl⟩

theorem fail_any (C : List Ins) (t : Thr) (ws : List Int) (e : Int) : Spec Tryd.prog GV 75 [.ptr 0 0 0, SV.i e] [thrBlk C t, intsB t.told, intsB ws] (fun r ho => r = .tup [] ∧ ho = [some (thrBlk C ⟨t.r, t.pc, t.told, e, true⟩), some (intsB t.told), some (intsB ws)]) := by
  refine start 11 3 Tryd.func75 rfl rfl rfl rfl ?_
  refine r0 ?_
  refine s1 4 3 1 rfl rfl rfl rfl rfl rfl trivial ?_
  refine s1 5 11 2 rfl rfl rfl rfl rfl rfl trivial ?_
  refine s1 6 19 3 rfl rfl rfl rfl rfl rfl trivial ?_
  refine s1 7 27 4 rfl rfl rfl rfl rfl rfl trivial ?_
  refine s1 8 35 5 rfl rfl rfl rfl rfl rfl trivial ?_
  refine s0 43 6 rfl rfl rfl rfl rfl (by first | trivial | omega) ?_
  refine s1 9 51 7 rfl rfl rfl rfl rfl rfl trivial ?_
  refine s1 10 59 8 rfl rfl rfl rfl rfl rfl trivial ?_
  refine s0 67 9 rfl rfl rfl rfl rfl (by first | trivial | omega) ?_
  refine e1 75 rfl ?_
  exact out0 (π := [0, 1, 2]) (hout := [some (thrBlk C ⟨t.r, t.pc, t.told, e, true⟩), some (intsB t.told), some (intsB ws)]) Tryd.results75 rfl rfl ⟨rfl, rfl, rfl, trivial⟩ ⟨rfl, rfl⟩

theorem vword_load {o : Ins} {n : Nat} {ws : List Int} {t : Thr} (h : o.k = 13) : vword o n ws t = (⟨setR t.r o.a (ws.getD n 0), t.pc, t.told, t.e, t.ov⟩, ws) := by unfold vword; rw [if_pos h]
theorem vword_store {o : Ins} {n : Nat} {ws : List Int} {t : Thr} (h : o.k = 14) : vword o n ws t = (t, ws.set n (t.r o.a.toNat)) := by unfold vword; rw [if_neg (by omega), if_pos h]
theorem vword_casY {o : Ins} {n : Nat} {ws : List Int} {t : Thr} (h : o.k = 15) (h2 : ws.getD n 0 = t.r o.d.toNat) : vword o n ws t = (⟨setR t.r o.a 1, t.pc, t.told, t.e, t.ov⟩, ws.set n (t.r o.a.toNat)) := by unfold vword; rw [if_neg (by omega), if_neg (by omega), if_pos h, if_pos h2]
theorem vword_casN {o : Ins} {n : Nat} {ws : List Int} {t : Thr} (h : o.k = 15) (h2 : ¬ ws.getD n 0 = t.r o.d.toNat) : vword o n ws t = (⟨setR t.r o.a 0, t.pc, t.told, t.e, t.ov⟩, ws) := by unfold vword; rw [if_neg (by omega), if_neg (by omega), if_pos h, if_neg h2]
theorem vword_no {o : Ins} {n : Nat} {ws : List Int} {t : Thr} (h : ¬ o.k = 13) (h2 : ¬ o.k = 14) (h3 : ¬ o.k = 15) : vword o n ws t = (t, ws) := by unfold vword; rw [if_neg h, if_neg h2, if_neg h3]

theorem word_any (C : List Ins) (t : Thr) (ws : List Int) (o : Ins) (n : Nat) (hn : n < ws.length) (ha : 0 ≤ o.a ∧ o.a < 24) (hd : o.k = 15 → 0 ≤ o.d ∧ o.d < 24) (p : Thr × List Int) (hp : vword o n ws t = p) : Spec Tryd.prog GV 76 [.ptr 0 0 0, insS o, .ptr 2 n 0] [thrBlk C t, intsB t.told, intsB ws] (fun r ho => r = .tup [] ∧ ho = [some (thrBlk C p.1), some (intsB p.1.told), some (intsB p.2)]) := by
  refine start 61 3 Tryd.func76 rfl rfl rfl rfl ?_
  refine r1 ?_
  refine s1 4 3 1 rfl rfl rfl rfl rfl rfl trivial ?_
  refine e1 11 rfl ?_
  refine keep [0, 2, 4] rfl ?_
  refine r1 ?_
  refine s1 8 11 1 rfl rfl rfl rfl rfl rfl trivial ?_
  refine s1 9 19 2 rfl rfl rfl rfl rfl rfl trivial ?_
  refine s1 10 27 3 rfl rfl rfl rfl rfl rfl trivial ?_
  refine s1 6 35 4 rfl rfl rfl rfl rfl rfl trivial ?_
  refine e1 43 rfl ?_
  refine keep [2, 4, 6] rfl ?_
  refine r1 ?_
  refine s1 11 43 1 rfl rfl rfl rfl rfl rfl trivial ?_
  refine s1 12 51 2 rfl rfl rfl rfl rfl rfl (by first | trivial | omega) ?_
  refine e1 59 rfl ?_
  refine keep [2, 4, 6, 12] rfl ?_
  refine W_block ?_
  refine r1 ?_
  refine s1 14 59 1 rfl rfl rfl rfl rfl rfl (by first | trivial | omega) ?_
  refine s1 13 67 2 rfl rfl rfl rfl rfl rfl trivial ?_
  refine e1 75 rfl ?_
  refine keep [2, 4, 6, 12, 13] rfl ?_
  refine q1 rfl (fun hc3 => ?_) (fun hc3 => ?_)
  · skip
    try simp only [cs, ne_eq] at hc3
    refine rd0 rfl ?_
    refine d1 15 75 1 rfl rfl rfl rfl rfl rfl trivial ?_
    refine d1 16 83 2 rfl rfl rfl rfl rfl rfl trivial ?_
    refine d1 17 91 3 rfl rfl rfl rfl rfl rfl (by first | trivial | omega) ?_
    refine d1 18 99 4 rfl rfl rfl rfl rfl rfl trivial ?_
    refine d1 19 107 5 rfl rfl rfl rfl rfl rfl trivial ?_
    refine d1 20 115 6 rfl rfl rfl rfl rfl rfl (by first | trivial | omega) ?_
    refine d1 21 123 7 rfl rfl rfl rfl rfl rfl trivial ?_
    refine d1 22 131 8 rfl rfl rfl rfl rfl rfl (by first | trivial | omega) ?_
    refine dSt (thrX_set (insV C) t.r t.pc (.sl 1 0 t.told.length) t.e t.ov _ (by omega)) (thrX_len _ _ _ _ _ _ (by omega)) 139 9 rfl rfl rfl rfl rfl rfl rfl rfl (by rfl) rfl rfl ?_
    refine de1 147 rfl (by kernel_rfl) ?_
    refine bn ?_
    have hq := hp.symm.trans (vword_load hc3)
    exact out0 (π := [0, 1, 2]) (hout := [some (thrBlk C p.1), some (intsB p.1.told), some (intsB p.2)]) Tryd.results76 rfl rfl ⟨(by rw [hq]; rfl), (by rw [hq]; rfl), (by rw [hq]; rfl), trivial⟩ ⟨rfl, rfl⟩
  try simp only [cs, ne_eq] at hc3
  refine r1 ?_
  refine s1 24 75 1 rfl rfl rfl rfl rfl rfl (by first | trivial | omega) ?_
  refine s1 23 83 2 rfl rfl rfl rfl rfl rfl trivial ?_
  refine e1 91 rfl ?_
  refine keep [2, 4, 6, 12, 23] rfl ?_
  refine q1 rfl (fun hc5 => ?_) (fun hc5 => ?_)
  · skip
    try simp only [cs, ne_eq] at hc5
    refine rd0n rfl ?_
    refine d1 25 91 1 rfl rfl rfl rfl rfl rfl trivial ?_
    refine d1 26 99 2 rfl rfl rfl rfl rfl rfl trivial ?_
    refine d1 27 107 3 rfl rfl rfl rfl rfl rfl trivial ?_
    refine d1 28 115 4 rfl rfl rfl rfl rfl rfl (by first | trivial | omega) ?_
    refine d1 29 123 5 rfl rfl rfl rfl rfl rfl trivial ?_
    refine d1 30 131 6 rfl rfl rfl rfl rfl rfl (by first | trivial | omega) ?_
    refine dLd (thrX_get (insV C) _ t.pc (.sl 1 0 t.told.length) t.e t.ov (by omega)) 31 139 7 rfl rfl rfl rfl rfl rfl rfl rfl rfl ?_
    refine d1 32 147 8 rfl rfl rfl rfl rfl rfl trivial ?_
    refine d0 155 9 rfl rfl rfl rfl rfl (by first | trivial | omega) ?_
    refine de1 163 rfl (by kernel_rfl) ?_
    refine rowscn 2 (ws.set n (t.r o.a.toNat)).length (intsF (ws.set n (t.r o.a.toNat))) rfl (by simp) (fun i c hi hc => ints_set ws n _ hn i c (by simpa using hi) hc) ?_
    refine wn ?_
    refine bn ?_
    have hq := hp.symm.trans (vword_store hc5)
    exact out0 (π := [0, 1, 2]) (hout := [some (thrBlk C p.1), some (intsB p.1.told), some (intsB p.2)]) Tryd.results76 rfl rfl ⟨(by rw [hq]; rfl), (by rw [hq]; rfl), (by rw [hq]; rfl), trivial⟩ ⟨rfl, rfl⟩
  try simp only [cs, ne_eq] at hc5
  refine r1 ?_
  refine s1 34 91 1 rfl rfl rfl rfl rfl rfl (by first | trivial | omega) ?_
  refine s1 33 99 2 rfl rfl rfl rfl rfl rfl trivial ?_
  refine e1 107 rfl ?_
  refine keep [2, 4, 6, 33] rfl ?_
  refine q1 rfl (fun hc7 => ?_) (fun hc7 => ?_)
  · skip
    try simp only [cs, ne_eq] at hc7
    have hd := hd hc7
    refine rd1 rfl ?_
    refine d1 35 107 1 rfl rfl rfl rfl rfl rfl trivial ?_
    refine d1 36 115 2 rfl rfl rfl rfl rfl rfl trivial ?_
    refine d1 37 123 3 rfl rfl rfl rfl rfl rfl (by first | trivial | omega) ?_
    refine d1 38 131 4 rfl rfl rfl rfl rfl rfl trivial ?_
    refine d1 39 139 5 rfl rfl rfl rfl rfl rfl trivial ?_
    refine d1 40 147 6 rfl rfl rfl rfl rfl rfl (by first | trivial | omega) ?_
    refine d1 41 155 7 rfl rfl rfl rfl rfl rfl trivial ?_
    refine d1 42 163 8 rfl rfl rfl rfl rfl rfl (by first | trivial | omega) ?_
    refine dLd (thrX_get (insV C) _ t.pc (.sl 1 0 t.told.length) t.e t.ov (by omega)) 43 171 9 rfl rfl rfl rfl rfl rfl rfl rfl rfl ?_
    refine d1 44 179 10 rfl rfl rfl rfl rfl rfl (by first | trivial | omega) ?_
    refine d1 7 187 11 rfl rfl rfl rfl rfl rfl trivial ?_
    refine de1 195 rfl (by kernel_rfl) ?_
    refine keep [2, 4, 6, 7] rfl ?_
    refine W_seq ?_
    refine r1 ?_
    refine s1 45 195 1 rfl rfl rfl rfl rfl rfl trivial ?_
    refine e1 203 rfl ?_
    refine keep [2, 4, 6, 7, 45] rfl ?_
    refine q1 rfl (fun hc9 => ?_) (fun hc9 => ?_)
    · skip
      try simp only [cs, ne_eq] at hc9
      refine rd0 rfl ?_
      refine d1 46 203 1 rfl rfl rfl rfl rfl rfl trivial ?_
      refine d1 47 211 2 rfl rfl rfl rfl rfl rfl trivial ?_
      refine d1 48 219 3 rfl rfl rfl rfl rfl rfl trivial ?_
      refine d1 49 227 4 rfl rfl rfl rfl rfl rfl (by first | trivial | omega) ?_
      refine d1 50 235 5 rfl rfl rfl rfl rfl rfl trivial ?_
      refine d1 51 243 6 rfl rfl rfl rfl rfl rfl (by first | trivial | omega) ?_
      refine dLd (thrX_get (insV C) _ t.pc (.sl 1 0 t.told.length) t.e t.ov (by omega)) 52 251 7 rfl rfl rfl rfl rfl rfl rfl rfl rfl ?_
      refine d1 53 259 8 rfl rfl rfl rfl rfl rfl trivial ?_
      refine d0 267 9 rfl rfl rfl rfl rfl (by first | trivial | omega) ?_
      refine de1 275 rfl (by kernel_rfl) ?_
      refine tn ?_
      refine rowsc 2 (ws.set n (t.r o.a.toNat)).length (intsF (ws.set n (t.r o.a.toNat))) rfl (by simp) (fun i c hi hc => ints_set ws n _ hn i c (by simpa using hi) hc) ?_
      refine cval 7 (SV.b true) rfl (congrArg SV.b (by simpa using hc9)) ?_
      refine rd0 rfl ?_
      refine d1 54 275 1 rfl rfl rfl rfl rfl rfl trivial ?_
      refine d1 55 283 2 rfl rfl rfl rfl rfl rfl trivial ?_
      refine d1 56 291 3 rfl rfl rfl rfl rfl rfl (by first | trivial | omega) ?_
      refine d1 57 299 4 rfl rfl rfl rfl rfl rfl trivial ?_
      refine dc1 (flag_any true) [] [] 58 307 5 rfl rfl rfl rfl rfl rfl rfl rfl Tryd.func64 rfl rfl rfl rfl trivial rfl rfl ?_
      refine d1 59 315 6 rfl rfl rfl rfl rfl rfl trivial ?_
      refine d1 60 323 7 rfl rfl rfl rfl rfl rfl (by first | trivial | omega) ?_
      refine dSt (thrX_set (insV C) t.r t.pc (.sl 1 0 t.told.length) t.e t.ov _ (by omega)) (thrX_len _ _ _ _ _ _ (by omega)) 331 8 rfl rfl rfl rfl rfl rfl rfl rfl (by rfl) rfl rfl ?_
      refine de1 339 rfl (by kernel_rfl) ?_
      refine bn ?_
      have hq := hp.symm.trans (by first | exact vword_casY hc7 hc9 | exact vword_casN hc7 hc9)
      exact out0 (π := [0, 1, 2]) (hout := [some (thrBlk C p.1), some (intsB p.1.told), some (intsB p.2)]) Tryd.results76 rfl rfl ⟨(by rw [hq]; rfl), (by rw [hq]; rfl), (by rw [hq]; rfl), trivial⟩ ⟨rfl, rfl⟩
    try simp only [cs, ne_eq] at hc9
    refine W_skip ?_
    refine tn ?_
    refine cval 7 (SV.b false) rfl (congrArg SV.b (by simpa using hc9)) ?_
    refine rd0 rfl ?_
    refine d1 54 203 1 rfl rfl rfl rfl rfl rfl trivial ?_
    refine d1 55 211 2 rfl rfl rfl rfl rfl rfl trivial ?_
    refine d1 56 219 3 rfl rfl rfl rfl rfl rfl (by first | trivial | omega) ?_
    refine d1 57 227 4 rfl rfl rfl rfl rfl rfl trivial ?_
    refine dc1 (flag_any false) [] [] 58 235 5 rfl rfl rfl rfl rfl rfl rfl rfl Tryd.func64 rfl rfl rfl rfl trivial rfl rfl ?_
    refine d1 59 243 6 rfl rfl rfl rfl rfl rfl trivial ?_
    refine d1 60 251 7 rfl rfl rfl rfl rfl rfl (by first | trivial | omega) ?_
    refine dSt (thrX_set (insV C) t.r t.pc (.sl 1 0 t.told.length) t.e t.ov _ (by omega)) (thrX_len _ _ _ _ _ _ (by omega)) 259 8 rfl rfl rfl rfl rfl rfl rfl rfl (by rfl) rfl rfl ?_
    refine de1 267 rfl (by kernel_rfl) ?_
    refine bn ?_
    have hq := hp.symm.trans (by first | exact vword_casY hc7 hc9 | exact vword_casN hc7 hc9)
    exact out0 (π := [0, 1, 2]) (hout := [some (thrBlk C p.1), some (intsB p.1.told), some (intsB p.2)]) Tryd.results76 rfl rfl ⟨(by rw [hq]; rfl), (by rw [hq]; rfl), (by rw [hq]; rfl), trivial⟩ ⟨rfl, rfl⟩
  try simp only [cs, ne_eq] at hc7
  refine W_skip ?_
  refine bn ?_
  have hq := hp.symm.trans (vword_no hc3 hc5 hc7)
  exact out0 (π := [0, 1, 2]) (hout := [some (thrBlk C p.1), some (intsB p.1.told), some (intsB p.2)]) Tryd.results76 rfl rfl ⟨(by rw [hq]; rfl), (by rw [hq]; rfl), (by rw [hq]; rfl), trivial⟩ ⟨rfl, rfl⟩

theorem voth_jump {o : Ins} {ws : List Int} {t : Thr} (h : o.k = 10) : vother o ws t = (⟨t.r, o.a, t.told, t.e, t.ov⟩, ws) := by unfold vother; rw [if_pos h]
theorem voth_when {o : Ins} {ws : List Int} {t : Thr} (h : o.k = 11 ∨ o.k = 12) (h2 : (t.r o.a.toNat != 0) = (o.k == 11)) : vother o ws t = (⟨t.r, o.b, t.told, t.e, t.ov⟩, ws) := by
  unfold vother; rw [if_neg (by omega), if_pos h, if_pos]
  rw [Bool.eq_iff_iff, bne_iff_ne, beq_iff_eq] at h2; exact h2
theorem voth_not {o : Ins} {ws : List Int} {t : Thr} (h : o.k = 11 ∨ o.k = 12) (h2 : ¬ (t.r o.a.toNat != 0) = (o.k == 11)) : vother o ws t = (t, ws) := by
  unfold vother; rw [if_neg (by omega), if_pos h, if_neg]
  rw [Bool.eq_iff_iff, bne_iff_ne, beq_iff_eq] at h2; exact h2
theorem voth_full {o : Ins} {ws : List Int} {t : Thr} (h : o.k = 16) (h2 : t.told.length = 200) : vother o ws t = (⟨t.r, t.pc, t.told, 8, true⟩, ws) := by unfold vother; rw [if_neg (by omega), if_neg (by omega), if_pos h, if_pos h2]
theorem voth_emit {o : Ins} {ws : List Int} {t : Thr} (h : o.k = 16) (h2 : ¬ t.told.length = 200) : vother o ws t = (⟨t.r, t.pc, t.told ++ [t.r o.a.toNat], t.e, t.ov⟩, ws) := by unfold vother; rw [if_neg (by omega), if_neg (by omega), if_pos h, if_neg h2]
theorem voth_done {o : Ins} {ws : List Int} {t : Thr} (h : o.k = 17) : vother o ws t = (⟨t.r, t.pc, t.told, t.e, true⟩, ws) := by unfold vother; rw [if_neg (by omega), if_neg (by omega), if_neg (by omega), if_pos h]
theorem voth_far {o : Ins} {ws : List Int} {t : Thr} (h : 13 ≤ o.k ∧ o.k ≤ 15) (h2 : wrp (t.r o.b.toNat + o.c) < 0 ∨ (ws.length : Int) ≤ wrp (t.r o.b.toNat + o.c)) : vother o ws t = (⟨t.r, t.pc, t.told, 2, true⟩, ws) := by unfold vother; rw [if_neg (by omega), if_neg (by omega), if_neg (by omega), if_neg (by omega), if_pos h2]
theorem voth_word {o : Ins} {ws : List Int} {t : Thr} (h : 13 ≤ o.k ∧ o.k ≤ 15) (h2 : ¬ (wrp (t.r o.b.toNat + o.c) < 0 ∨ (ws.length : Int) ≤ wrp (t.r o.b.toNat + o.c))) : vother o ws t = vword o (wrp (t.r o.b.toNat + o.c)).toNat ws t := by unfold vother; rw [if_neg (by omega), if_neg (by omega), if_neg (by omega), if_neg (by omega), if_neg h2]

theorem other_any (C : List Ins) (t : Thr) (ws : List Int) (o : Ins) (fit : Fit C.length o) (hk9 : ¬ o.k ≤ 9) (hws : ws.length ≤ 200) (htl : t.told.length ≤ 200) (p : Thr × List Int) (hp : vother o ws t = p) : Spec Tryd.prog GV 65 [.ptr 0 0 0, insS o, .sl 2 0 ws.length] [thrBlk C t, intsB t.told, intsB ws] (fun r ho => r = .tup [] ∧ ho = [some (thrYB 3 C p.1), none, some (intsB p.2), some (intsB p.1.told)]) := by
  obtain ⟨hk, ha, ha10, hb, hb11, hcc, hd⟩ := fit
  refine start 94 3 Tryd.func65 rfl rfl rfl rfl ?_
  refine rename 1 rfl rfl ?_
  refine r1 ?_
  refine s1 4 11 1 rfl rfl rfl rfl rfl rfl trivial ?_
  refine e1 19 rfl ?_
  refine keep [0, 2, 4] rfl ?_
  refine r1 ?_
  refine s1 8 19 1 rfl rfl rfl rfl rfl rfl trivial ?_
  refine s1 9 27 2 rfl rfl rfl rfl rfl rfl trivial ?_
  refine s1 10 35 3 rfl rfl rfl rfl rfl rfl trivial ?_
  refine s1 6 43 4 rfl rfl rfl rfl rfl rfl trivial ?_
  refine e1 51 rfl ?_
  refine keep [0, 2, 4, 6] rfl ?_
  refine r1 ?_
  refine s1 11 51 1 rfl rfl rfl rfl rfl rfl trivial ?_
  refine s1 12 59 2 rfl rfl rfl rfl rfl rfl (by first | trivial | omega) ?_
  refine e1 67 rfl ?_
  refine keep [0, 2, 4, 6, 12] rfl ?_
  refine W_block ?_
  refine r1 ?_
  refine s1 39 67 1 rfl rfl rfl rfl rfl rfl (by first | trivial | omega) ?_
  refine s1 38 75 2 rfl rfl rfl rfl rfl rfl trivial ?_
  refine e1 83 rfl ?_
  refine keep [0, 2, 4, 6, 12, 38] rfl ?_
  refine q1 rfl (fun hc7 => ?_) (fun hc7 => ?_)
  · skip
    try simp only [cs, ne_eq] at hc7
    refine r0 ?_
    refine s1 40 83 1 rfl rfl rfl rfl rfl rfl trivial ?_
    refine s1 41 91 2 rfl rfl rfl rfl rfl rfl trivial ?_
    refine s1 42 99 3 rfl rfl rfl rfl rfl rfl (by first | trivial | omega) ?_
    refine s1 43 107 4 rfl rfl rfl rfl rfl rfl trivial ?_
    refine s1 44 115 5 rfl rfl rfl rfl rfl rfl trivial ?_
    refine s0 123 6 rfl rfl rfl rfl rfl (by first | trivial | omega) ?_
    refine e1 131 rfl ?_
    refine bn ?_
    have hq := hp.symm.trans (voth_jump hc7)
    exact out0 (π := [0, 1, 2, 3]) (hout := [some (thrYB 3 C p.1), none, some (intsB p.2), some (intsB p.1.told)]) Tryd.results65 rfl rfl ⟨(by rw [hq]; rfl), (by rw [hq]; rfl), (by rw [hq]; rfl), trivial⟩ ⟨rfl, rfl⟩
  try simp only [cs, ne_eq] at hc7
  refine W_seq ?_
  refine r1 ?_
  refine s1 46 83 1 rfl rfl rfl rfl rfl rfl (by first | trivial | omega) ?_
  refine s1 45 91 2 rfl rfl rfl rfl rfl rfl trivial ?_
  refine e1 99 rfl ?_
  refine keep [0, 2, 4, 6, 12, 45] rfl ?_
  refine q1 rfl (fun hc9 => ?_) (fun hc9 => ?_)
  · skip
    try simp only [cs, ne_eq] at hc9
    refine W_skip ?_
    refine tn ?_
    refine q1 rfl (fun hc9 => ?_) (fun hc9 => ?_)
    · skip
      try simp only [cs, ne_eq] at hc9
      have ha := ha (by omega) (by omega)
      refine rd1 rfl ?_
      refine d1 48 99 1 rfl rfl rfl rfl rfl rfl trivial ?_
      refine d1 49 107 2 rfl rfl rfl rfl rfl rfl trivial ?_
      refine d1 50 115 3 rfl rfl rfl rfl rfl rfl (by first | trivial | omega) ?_
      refine d1 51 123 4 rfl rfl rfl rfl rfl rfl trivial ?_
      refine d1 52 131 5 rfl rfl rfl rfl rfl rfl (by first | trivial | omega) ?_
      refine dLd (thrX_get (insV C) _ t.pc (.sl 3 0 t.told.length) t.e t.ov (by omega)) 53 139 6 rfl rfl rfl rfl rfl rfl rfl rfl rfl ?_
      refine d1 54 147 7 rfl rfl rfl rfl rfl rfl (by first | trivial | omega) ?_
      refine d1 55 155 8 rfl rfl rfl rfl rfl rfl trivial ?_
      refine d1 56 163 9 rfl rfl rfl rfl rfl rfl (by first | trivial | omega) ?_
      refine d1 57 171 10 rfl rfl rfl rfl rfl rfl (by first | trivial | omega) ?_
      refine d1 58 179 11 rfl rfl rfl rfl rfl rfl (by first | trivial | omega) ?_
      refine de1 187 rfl (by kernel_rfl) ?_
      refine keep [0, 4, 58] rfl ?_
      refine q1 rfl (fun hc11 => ?_) (fun hc11 => ?_)
      · skip
        try simp only [cs, ne_eq] at hc11
        refine r0 ?_
        refine s1 59 187 1 rfl rfl rfl rfl rfl rfl trivial ?_
        refine s1 60 195 2 rfl rfl rfl rfl rfl rfl trivial ?_
        refine s1 61 203 3 rfl rfl rfl rfl rfl rfl (by first | trivial | omega) ?_
        refine s1 62 211 4 rfl rfl rfl rfl rfl rfl trivial ?_
        refine s1 63 219 5 rfl rfl rfl rfl rfl rfl trivial ?_
        refine s0 227 6 rfl rfl rfl rfl rfl (by first | trivial | omega) ?_
        refine e1 235 rfl ?_
        refine bn ?_
        have hq := hp.symm.trans (voth_when (by omega) hc11)
        exact out0 (π := [0, 1, 2, 3]) (hout := [some (thrYB 3 C p.1), none, some (intsB p.2), some (intsB p.1.told)]) Tryd.results65 rfl rfl ⟨(by rw [hq]; rfl), (by rw [hq]; rfl), (by rw [hq]; rfl), trivial⟩ ⟨rfl, rfl⟩
      try simp only [cs, ne_eq] at hc11
      refine W_skip ?_
      refine bn ?_
      have hq := hp.symm.trans (voth_not (by omega) hc11)
      exact out0 (π := [0, 1, 2, 3]) (hout := [some (thrYB 3 C p.1), none, some (intsB p.2), some (intsB p.1.told)]) Tryd.results65 rfl rfl ⟨(by rw [hq]; rfl), (by rw [hq]; rfl), (by rw [hq]; rfl), trivial⟩ ⟨rfl, rfl⟩
    try simp only [cs, ne_eq] at hc9
    exfalso; first | omega | contradiction | (simp_all; done)
  try simp only [cs, ne_eq] at hc9
  refine r0 ?_
  refine s1 47 99 1 rfl rfl rfl rfl rfl rfl (by first | trivial | omega) ?_
  refine s1 45 107 2 rfl rfl rfl rfl rfl rfl trivial ?_
  refine e1 115 rfl ?_
  refine tn ?_
  refine q1 rfl (fun hc10 => ?_) (fun hc10 => ?_)
  · skip
    try simp only [cs, ne_eq] at hc10
    have ha := ha (by omega) (by omega)
    refine rd1 rfl ?_
    refine d1 48 115 1 rfl rfl rfl rfl rfl rfl trivial ?_
    refine d1 49 123 2 rfl rfl rfl rfl rfl rfl trivial ?_
    refine d1 50 131 3 rfl rfl rfl rfl rfl rfl (by first | trivial | omega) ?_
    refine d1 51 139 4 rfl rfl rfl rfl rfl rfl trivial ?_
    refine d1 52 147 5 rfl rfl rfl rfl rfl rfl (by first | trivial | omega) ?_
    refine dLd (thrX_get (insV C) _ t.pc (.sl 3 0 t.told.length) t.e t.ov (by omega)) 53 155 6 rfl rfl rfl rfl rfl rfl rfl rfl rfl ?_
    refine d1 54 163 7 rfl rfl rfl rfl rfl rfl (by first | trivial | omega) ?_
    refine d1 55 171 8 rfl rfl rfl rfl rfl rfl trivial ?_
    refine d1 56 179 9 rfl rfl rfl rfl rfl rfl (by first | trivial | omega) ?_
    refine d1 57 187 10 rfl rfl rfl rfl rfl rfl (by first | trivial | omega) ?_
    refine d1 58 195 11 rfl rfl rfl rfl rfl rfl (by first | trivial | omega) ?_
    refine de1 203 rfl (by kernel_rfl) ?_
    refine keep [0, 4, 58] rfl ?_
    refine q1 rfl (fun hc11 => ?_) (fun hc11 => ?_)
    · skip
      try simp only [cs, ne_eq] at hc11
      refine r0 ?_
      refine s1 59 203 1 rfl rfl rfl rfl rfl rfl trivial ?_
      refine s1 60 211 2 rfl rfl rfl rfl rfl rfl trivial ?_
      refine s1 61 219 3 rfl rfl rfl rfl rfl rfl (by first | trivial | omega) ?_
      refine s1 62 227 4 rfl rfl rfl rfl rfl rfl trivial ?_
      refine s1 63 235 5 rfl rfl rfl rfl rfl rfl trivial ?_
      refine s0 243 6 rfl rfl rfl rfl rfl (by first | trivial | omega) ?_
      refine e1 251 rfl ?_
      refine bn ?_
      have hq := hp.symm.trans (voth_when (by omega) hc11)
      exact out0 (π := [0, 1, 2, 3]) (hout := [some (thrYB 3 C p.1), none, some (intsB p.2), some (intsB p.1.told)]) Tryd.results65 rfl rfl ⟨(by rw [hq]; rfl), (by rw [hq]; rfl), (by rw [hq]; rfl), trivial⟩ ⟨rfl, rfl⟩
    try simp only [cs, ne_eq] at hc11
    refine W_skip ?_
    refine bn ?_
    have hq := hp.symm.trans (voth_not (by omega) hc11)
    exact out0 (π := [0, 1, 2, 3]) (hout := [some (thrYB 3 C p.1), none, some (intsB p.2), some (intsB p.1.told)]) Tryd.results65 rfl rfl ⟨(by rw [hq]; rfl), (by rw [hq]; rfl), (by rw [hq]; rfl), trivial⟩ ⟨rfl, rfl⟩
  try simp only [cs, ne_eq] at hc10
  refine r1 ?_
  refine s1 65 115 1 rfl rfl rfl rfl rfl rfl (by first | trivial | omega) ?_
  refine s1 64 123 2 rfl rfl rfl rfl rfl rfl trivial ?_
  refine e1 131 rfl ?_
  refine keep [0, 2, 4, 6, 12, 64] rfl ?_
  refine q1 rfl (fun hc13 => ?_) (fun hc13 => ?_)
  · skip
    try simp only [cs, ne_eq] at hc13
    refine W_seq ?_
    refine r1 ?_
    refine s1 66 131 1 rfl rfl rfl rfl rfl rfl trivial ?_
    refine s1 67 139 2 rfl rfl rfl rfl rfl rfl trivial ?_
    refine s1 68 147 3 rfl rfl rfl rfl rfl rfl trivial ?_
    refine s1 69 155 4 rfl rfl rfl rfl rfl rfl (by first | trivial | omega) ?_
    refine s1 70 163 5 rfl rfl rfl rfl rfl rfl (by first | trivial | omega) ?_
    refine s1 71 171 6 rfl rfl rfl rfl rfl rfl (by first | trivial | omega) ?_
    refine e1 179 rfl ?_
    refine keep [0, 4, 6, 71] rfl ?_
    refine q1 rfl (fun hc14 => ?_) (fun hc14 => ?_)
    · skip
      try simp only [cs, ne_eq] at hc14
      refine r1 ?_
      refine s1 72 179 1 rfl rfl rfl rfl rfl rfl trivial ?_
      refine c1 (fail_any C t ws 8) [0, 3, 2] [0, 3, 2] 73 187 2 rfl rfl rfl rfl rfl rfl rfl rfl Tryd.func75 rfl rfl rfl rfl ⟨rfl, rfl, rfl, trivial⟩ rfl rfl ?_
      refine e1 195 rfl ?_
      refine keep [] rfl ?_
      refine W_ret ?_
      refine tr ?_
      refine br ?_
      have hq := hp.symm.trans (voth_full hc13 (by omega))
      exact out0 (π := [0, 1, 2, 3]) (hout := [some (thrYB 3 C p.1), none, some (intsB p.2), some (intsB p.1.told)]) Tryd.results65 rfl rfl ⟨(by rw [hq]; rfl), (by rw [hq]; rfl), (by rw [hq]; rfl), trivial⟩ ⟨rfl, rfl⟩
    try simp only [cs, ne_eq] at hc14
    refine W_skip ?_
    refine tn ?_
    have ha := ha (by omega) (by omega)
    refine rd0n rfl ?_
    refine d1 74 179 1 rfl rfl rfl rfl rfl rfl trivial ?_
    refine d1 75 187 2 rfl rfl rfl rfl rfl rfl trivial ?_
    refine d1 76 195 3 rfl rfl rfl rfl rfl rfl trivial ?_
    refine d1 77 203 4 rfl rfl rfl rfl rfl rfl trivial ?_
    refine d1 78 211 5 rfl rfl rfl rfl rfl rfl (by first | trivial | omega) ?_
    refine d1 79 219 6 rfl rfl rfl rfl rfl rfl trivial ?_
    refine d1 80 227 7 rfl rfl rfl rfl rfl rfl trivial ?_
    refine d1 81 235 8 rfl rfl rfl rfl rfl rfl (by first | trivial | omega) ?_
    refine d1 82 243 9 rfl rfl rfl rfl rfl rfl trivial ?_
    refine d1 83 251 10 rfl rfl rfl rfl rfl rfl (by first | trivial | omega) ?_
    refine dLd (thrX_get (insV C) _ t.pc (.sl 3 0 t.told.length) t.e t.ov (by omega)) 84 259 11 rfl rfl rfl rfl rfl rfl rfl rfl rfl ?_
    refine d1 85 267 12 rfl rfl rfl rfl rfl rfl trivial ?_
    refine d1 86 275 13 rfl rfl rfl rfl rfl rfl ⟨Nat.le_refl _, trivial, (by show (t.told.length + 1) * 8 ≤ 140737488355328; omega), (by simp only [maxLen]; omega)⟩ ?_
    refine d1 87 283 14 rfl rfl rfl rfl rfl rfl trivial ?_
    refine d1 88 291 15 rfl rfl rfl rfl rfl rfl trivial ?_
    refine d0 299 16 rfl rfl rfl rfl rfl (by first | trivial | omega) ?_
    refine de1 307 rfl (by kernel_rfl) ?_
    refine rowscn 275 (t.told ++ [t.r o.a.toNat]).length (intsF (t.told ++ [t.r o.a.toNat])) rfl (by simp) (fun i c hi hc => ints_cat t.told _ i c hi hc) ?_
    refine chvaln 0 (.cells 88 29 (thrX (insV C) t.r t.pc (.sl 275 0 (t.told ++ [t.r o.a.toNat]).length) t.e t.ov)) rfl (by rw [List.length_append]; rfl) ?_
    refine wn ?_
    refine bn ?_
    have hq := hp.symm.trans (voth_emit hc13 (by omega))
    exact out0 (π := [0, 1, 2, 275]) (hout := [some (thrYB 3 C p.1), none, some (intsB p.2), some (intsB p.1.told)]) Tryd.results65 rfl rfl ⟨(by rw [hq]; rfl), (by rw [hq]; rfl), (by rw [hq]; rfl), trivial⟩ ⟨rfl, rfl⟩
  try simp only [cs, ne_eq] at hc13
  refine r1 ?_
  refine s1 90 131 1 rfl rfl rfl rfl rfl rfl (by first | trivial | omega) ?_
  refine s1 89 139 2 rfl rfl rfl rfl rfl rfl trivial ?_
  refine e1 147 rfl ?_
  refine keep [0, 2, 4, 6, 89] rfl ?_
  refine q1 rfl (fun hc17 => ?_) (fun hc17 => ?_)
  · skip
    try simp only [cs, ne_eq] at hc17
    refine r0 ?_
    refine s1 91 147 1 rfl rfl rfl rfl rfl rfl trivial ?_
    refine s1 92 155 2 rfl rfl rfl rfl rfl rfl trivial ?_
    refine s1 93 163 3 rfl rfl rfl rfl rfl rfl trivial ?_
    refine s0 171 4 rfl rfl rfl rfl rfl (by first | trivial | omega) ?_
    refine e1 179 rfl ?_
    refine bn ?_
    have hq := hp.symm.trans (voth_done hc17)
    exact out0 (π := [0, 1, 2, 3]) (hout := [some (thrYB 3 C p.1), none, some (intsB p.2), some (intsB p.1.told)]) Tryd.results65 rfl rfl ⟨(by rw [hq]; rfl), (by rw [hq]; rfl), (by rw [hq]; rfl), trivial⟩ ⟨rfl, rfl⟩
  try simp only [cs, ne_eq] at hc17
  have hb := hb (by omega)
  have ha := ha (by omega) (by omega)
  refine rd1 rfl ?_
  refine d1 13 147 1 rfl rfl rfl rfl rfl rfl trivial ?_
  refine d1 14 155 2 rfl rfl rfl rfl rfl rfl trivial ?_
  refine d1 15 163 3 rfl rfl rfl rfl rfl rfl (by first | trivial | omega) ?_
  refine d1 16 171 4 rfl rfl rfl rfl rfl rfl trivial ?_
  refine d1 17 179 5 rfl rfl rfl rfl rfl rfl (by first | trivial | omega) ?_
  refine dLd (thrX_get (insV C) _ t.pc (.sl 3 0 t.told.length) t.e t.ov (by omega)) 18 187 6 rfl rfl rfl rfl rfl rfl rfl rfl rfl ?_
  refine d1 19 195 7 rfl rfl rfl rfl rfl rfl trivial ?_
  refine d1 20 203 8 rfl rfl rfl rfl rfl rfl (by first | trivial | omega) ?_
  refine d1 21 211 9 rfl rfl rfl rfl rfl rfl (by first | trivial | omega) ?_
  refine val 21 (SV.i (wrp (t.r o.b.toNat + o.c))) rfl rfl ?_
  refine d1 7 219 10 rfl rfl rfl rfl rfl rfl trivial ?_
  refine de1 227 rfl (by kernel_rfl) ?_
  refine keep [0, 2, 4, 7] rfl ?_
  refine W_seq ?_
  refine r1 ?_
  refine s1 22 227 1 rfl rfl rfl rfl rfl rfl trivial ?_
  refine s1 23 235 2 rfl rfl rfl rfl rfl rfl (by first | trivial | omega) ?_
  refine s1 24 243 3 rfl rfl rfl rfl rfl rfl trivial ?_
  refine ask 24 rfl (fun hg4_24 => ?_) (fun hg4_24 => ?_)
  · skip
    try simp only [cs, ne_eq] at hg4_24
    refine g0 2 false 24 25 4 rfl rfl rfl rfl rfl rfl ?_
    refine g0 2 false 24 26 5 rfl rfl rfl rfl rfl rfl ?_
    refine g0 2 false 24 27 6 rfl rfl rfl rfl rfl rfl ?_
    refine g0 2 false 24 28 7 rfl rfl rfl rfl rfl rfl ?_
    refine s1 29 283 8 rfl rfl rfl rfl rfl rfl trivial ?_
    refine e1 291 rfl ?_
    refine keep [0, 2, 4, 7, 29] rfl ?_
    refine q1 rfl (fun hc4 => ?_) (fun hc4 => ?_)
    · skip
      try simp only [cs, ne_eq] at hc4
      refine r1 ?_
      refine s1 30 291 1 rfl rfl rfl rfl rfl rfl trivial ?_
      refine c1 (fail_any C t ws 2) [0, 3, 2] [0, 3, 2] 31 299 2 rfl rfl rfl rfl rfl rfl rfl rfl Tryd.func75 rfl rfl rfl rfl ⟨rfl, rfl, rfl, trivial⟩ rfl rfl ?_
      refine e1 307 rfl ?_
      refine keep [] rfl ?_
      refine W_ret ?_
      refine tr ?_
      refine br ?_
      have hq := hp.symm.trans (voth_far (by omega) (by omega))
      exact out0 (π := [0, 1, 2, 3]) (hout := [some (thrYB 3 C p.1), none, some (intsB p.2), some (intsB p.1.told)]) Tryd.results65 rfl rfl ⟨(by rw [hq]; rfl), (by rw [hq]; rfl), (by rw [hq]; rfl), trivial⟩ ⟨rfl, rfl⟩
    exact absurd hc4 (by decide)
  try simp only [cs, ne_eq] at hg4_24
  refine g1 2 false 24 25 4 rfl rfl rfl rfl rfl ?_
  refine s1 25 251 4 rfl rfl rfl rfl rfl rfl trivial ?_
  refine g1 2 false 24 26 5 rfl rfl rfl rfl rfl ?_
  refine s1 26 259 5 rfl rfl rfl rfl rfl rfl trivial ?_
  refine g1 2 false 24 27 6 rfl rfl rfl rfl rfl ?_
  refine s1 27 267 6 rfl rfl rfl rfl rfl rfl (by first | trivial | omega) ?_
  refine g1 2 false 24 28 7 rfl rfl rfl rfl rfl ?_
  refine s1 28 275 7 rfl rfl rfl rfl rfl rfl (by first | trivial | omega) ?_
  refine s1 29 283 8 rfl rfl rfl rfl rfl rfl trivial ?_
  refine e1 291 rfl ?_
  refine keep [0, 2, 4, 7, 29] rfl ?_
  refine q1 rfl (fun hc4 => ?_) (fun hc4 => ?_)
  · skip
    try simp only [cs, ne_eq] at hc4
    refine r1 ?_
    refine s1 30 291 1 rfl rfl rfl rfl rfl rfl trivial ?_
    refine c1 (fail_any C t ws 2) [0, 3, 2] [0, 3, 2] 31 299 2 rfl rfl rfl rfl rfl rfl rfl rfl Tryd.func75 rfl rfl rfl rfl ⟨rfl, rfl, rfl, trivial⟩ rfl rfl ?_
    refine e1 307 rfl ?_
    refine keep [] rfl ?_
    refine W_ret ?_
    refine tr ?_
    refine br ?_
    have hq := hp.symm.trans (voth_far (by omega) (by omega))
    exact out0 (π := [0, 1, 2, 3]) (hout := [some (thrYB 3 C p.1), none, some (intsB p.2), some (intsB p.1.told)]) Tryd.results65 rfl rfl ⟨(by rw [hq]; rfl), (by rw [hq]; rfl), (by rw [hq]; rfl), trivial⟩ ⟨rfl, rfl⟩
  try simp only [cs, ne_eq] at hc4
  refine W_skip ?_
  refine tn ?_
  refine rd0 rfl ?_
  refine d1 32 291 1 rfl rfl rfl rfl rfl rfl trivial ?_
  refine d1 33 299 2 rfl rfl rfl rfl rfl rfl (by first | trivial | omega) ?_
  refine d1 34 307 3 rfl rfl rfl rfl rfl rfl trivial ?_
  refine d1 35 315 4 rfl rfl rfl rfl rfl rfl trivial ?_
  refine d1 36 323 5 rfl rfl rfl rfl rfl rfl (by omega) ?_
  refine val 36 (.ptr 2 (wrp (t.r o.b.toNat + o.c)).toNat 0) rfl (by rw [Nat.zero_add]; rfl) ?_
  refine dc1 (word_any C t ws o (wrp (t.r o.b.toNat + o.c)).toNat (by omega) ha hd _ rfl) [0, 3, 2] [0, 3, 2] 37 331 6 rfl rfl rfl rfl rfl rfl rfl rfl Tryd.func76 rfl rfl rfl rfl ⟨rfl, rfl, rfl, trivial⟩ rfl rfl ?_
  refine de1 339 rfl (by kernel_rfl) ?_
  refine bn ?_
  have hq := hp.symm.trans (voth_word (by omega) (by omega))
  exact out0 (π := [0, 1, 2, 3]) (hout := [some (thrYB 3 C p.1), none, some (intsB p.2), some (intsB p.1.told)]) Tryd.results65 rfl rfl ⟨(by rw [hq]; rfl), (by rw [hq]; rfl), (by rw [hq]; rfl), trivial⟩ ⟨rfl, rfl⟩

theorem step_over {C : List Ins} {ws : List Int} {t : Thr} (h : t.ov = true) : vstep C ws t = (t, ws) := by unfold vstep; rw [if_pos h]
theorem step_alu {C : List Ins} {ws : List Int} {t : Thr} (h : t.ov = false) (hk : (C.getD t.pc.toNat default).k ≤ 9) {v : Int} (hv : alu (C.getD t.pc.toNat default) t.r = v) {b : Bool} (hb : (t.ov || decide (t.pc + 1 = C.length)) = b) : vstep C ws t = (⟨setR t.r (C.getD t.pc.toNat default).a v, t.pc + 1, t.told, t.e, b⟩, ws) := by
  unfold vstep vexec vend; rw [if_neg (by rw [h]; decide), if_pos hk, hv, ← hb]
theorem step_oth {C : List Ins} {ws : List Int} {t : Thr} (h : t.ov = false) (hk : ¬ (C.getD t.pc.toNat default).k ≤ 9) {q : Thr × List Int} (hq : vother (C.getD t.pc.toNat default) ws ⟨t.r, t.pc + 1, t.told, t.e, t.ov⟩ = q) {b : Bool} (hb : (q.1.ov || decide (q.1.pc = C.length)) = b) : vstep C ws t = (⟨q.1.r, q.1.pc, q.1.told, q.1.e, b⟩, q.2) := by
  unfold vstep vexec vend; rw [if_neg (by rw [h]; decide), if_neg hk, hq, ← hb]
theorem alu_1 {o : Ins} {r : Nat → Int} (h : o.k = 1) : alu o r = o.b := by unfold alu; rw [if_pos h]
theorem alu_2 {o : Ins} {r : Nat → Int} (h : o.k = 2) : alu o r = r o.b.toNat := by unfold alu; rw [if_neg (by omega), if_pos h]
theorem alu_3 {o : Ins} {r : Nat → Int} (h : o.k = 3) : alu o r = wrp (r o.b.toNat + r o.c.toNat) := by unfold alu; rw [if_neg (by omega), if_neg (by omega), if_pos h]
theorem alu_4 {o : Ins} {r : Nat → Int} (h : o.k = 4) : alu o r = wrp (r o.b.toNat - r o.c.toNat) := by unfold alu; rw [if_neg (by omega), if_neg (by omega), if_neg (by omega), if_pos h]
theorem alu_5 {o : Ins} {r : Nat → Int} (h : o.k = 5) : alu o r = wrp (r o.b.toNat * r o.c.toNat) := by unfold alu; rw [if_neg (by omega), if_neg (by omega), if_neg (by omega), if_neg (by omega), if_pos h]
theorem alu_6 {o : Ins} {r : Nat → Int} (h : o.k = 6) : alu o r = quoI (r o.b.toNat) (r o.c.toNat) (o.k == 7) := by unfold alu; rw [if_neg (by omega), if_neg (by omega), if_neg (by omega), if_neg (by omega), if_neg (by omega), if_pos h, h]; rfl
theorem alu_7 {o : Ins} {r : Nat → Int} (h : o.k = 7) : alu o r = quoI (r o.b.toNat) (r o.c.toNat) (o.k == 7) := by unfold alu; rw [if_neg (by omega), if_neg (by omega), if_neg (by omega), if_neg (by omega), if_neg (by omega), if_neg (by omega), if_pos h, h]; rfl
theorem alu_8 {o : Ins} {r : Nat → Int} (h : o.k = 8) : alu o r = boolI (decide (r o.b.toNat = r o.c.toNat)) := by unfold alu; rw [if_neg (by omega), if_neg (by omega), if_neg (by omega), if_neg (by omega), if_neg (by omega), if_neg (by omega), if_neg (by omega), if_pos h]
theorem alu_9 {o : Ins} {r : Nat → Int} (h : o.k = 9) : alu o r = boolI (decide (r o.b.toNat < r o.c.toNat)) := by unfold alu; rw [if_neg (by omega), if_neg (by omega), if_neg (by omega), if_neg (by omega), if_neg (by omega), if_neg (by omega), if_neg (by omega), if_neg (by omega)]

theorem step_any (C : List Ins) (t : Thr) (ws : List Int) (hC : mayB C = true) (hpc : t.ov = false → 0 ≤ t.pc ∧ t.pc < C.length) (hws : ws.length ≤ 200) (htl : t.told.length ≤ 200) (p : Thr × List Int) (hp : vstep C ws t = p) : Spec Tryd.prog GV 45 [.ptr 0 0 0, .sl 2 0 ws.length] [thrBlk C t, intsB t.told, intsB ws] (fun r ho => r = .tup [] ∧ ho = [some (thrYB 3 C p.1), none, some (intsB p.2), some (intsB p.1.told)]) := by
  refine start 203 3 Tryd.func45 rfl rfl rfl rfl ?_
  refine W_seq ?_
  refine rename 1 rfl rfl ?_
  refine r1 ?_
  refine s1 6 11 1 rfl rfl rfl rfl rfl rfl trivial ?_
  refine s1 7 19 2 rfl rfl rfl rfl rfl rfl trivial ?_
  refine s1 8 27 3 rfl rfl rfl rfl rfl rfl trivial ?_
  refine s1 9 35 4 rfl rfl rfl rfl rfl rfl (by first | trivial | omega) ?_
  refine e1 43 rfl ?_
  refine keep [0, 1, 9] rfl ?_
  refine q1 rfl (fun hc0 => ?_) (fun hc0 => ?_)
  · skip
    try simp only [cs, ne_eq] at hc0
    refine W_ret ?_
    refine tr ?_
    have hq := hp.symm.trans (step_over hc0)
    exact out0 (π := [0, 1, 2, 3]) (hout := [some (thrYB 3 C p.1), none, some (intsB p.2), some (intsB p.1.told)]) Tryd.results45 rfl rfl ⟨(by rw [hq]; rfl), (by rw [hq]; rfl), (by rw [hq]; rfl), trivial⟩ ⟨rfl, rfl⟩
  try simp only [cs, ne_eq] at hc0
  have hpc := hpc hc0
  have fit := fit_at hC (n := t.pc.toNat) (by omega)
  have hCl : C.length ≤ 200 := (by unfold mayB at hC; simp at hC; exact hC.1)
  refine W_skip ?_
  refine tn ?_
  refine rd1 rfl ?_
  refine d1 10 43 1 rfl rfl rfl rfl rfl rfl trivial ?_
  refine d1 11 51 2 rfl rfl rfl rfl rfl rfl trivial ?_
  refine d1 12 59 3 rfl rfl rfl rfl rfl rfl trivial ?_
  refine d1 13 67 4 rfl rfl rfl rfl rfl rfl (by first | trivial | omega) ?_
  refine d1 14 75 5 rfl rfl rfl rfl rfl rfl trivial ?_
  refine d1 15 83 6 rfl rfl rfl rfl rfl rfl trivial ?_
  refine d1 16 91 7 rfl rfl rfl rfl rfl rfl trivial ?_
  refine d1 17 99 8 rfl rfl rfl rfl rfl rfl (by first | trivial | omega) ?_
  refine d1 18 107 9 rfl rfl rfl rfl rfl rfl (by omega) ?_
  refine d1 19 115 10 rfl rfl rfl rfl rfl rfl (by first | trivial | omega) ?_
  refine d1 4 123 11 rfl rfl rfl rfl rfl rfl trivial ?_
  refine d0 131 12 rfl rfl rfl rfl rfl (by first | trivial | omega) ?_
  refine de1 139 rfl (by kernel_rfl) ?_
  refine keep [0, 1, 4] rfl ?_
  refine r1 ?_
  refine s1 20 139 1 rfl rfl rfl rfl rfl rfl trivial ?_
  refine s1 21 147 2 rfl rfl rfl rfl rfl rfl trivial ?_
  refine s1 22 155 3 rfl rfl rfl rfl rfl rfl trivial ?_
  refine s1 23 163 4 rfl rfl rfl rfl rfl rfl (by first | trivial | omega) ?_
  refine sA 24 171 5 rfl rfl rfl rfl rfl rfl rfl rfl rfl (by unfold inRange; omega) ?_
  refine s1 25 179 6 rfl rfl rfl rfl rfl rfl trivial ?_
  refine s1 26 187 7 rfl rfl rfl rfl rfl rfl trivial ?_
  refine s0 195 8 rfl rfl rfl rfl rfl (by first | trivial | omega) ?_
  refine e1 203 rfl ?_
  refine keep [0, 1, 4] rfl ?_
  refine r1 ?_
  refine s1 27 203 1 rfl rfl rfl rfl rfl rfl trivial ?_
  refine s1 28 211 2 rfl rfl rfl rfl rfl rfl trivial ?_
  refine s1 29 219 3 rfl rfl rfl rfl rfl rfl trivial ?_
  refine s1 5 227 4 rfl rfl rfl rfl rfl rfl trivial ?_
  refine e1 235 rfl ?_
  refine keep [0, 1, 4, 5] rfl ?_
  refine W_seq ?_
  refine r1 ?_
  refine s1 30 235 1 rfl rfl rfl rfl rfl rfl trivial ?_
  refine s1 31 243 2 rfl rfl rfl rfl rfl rfl (by first | trivial | omega) ?_
  refine e1 251 rfl ?_
  refine keep [0, 1, 4, 5, 31] rfl ?_
  refine W_block ?_
  refine r1 ?_
  refine s1 37 251 1 rfl rfl rfl rfl rfl rfl (by first | trivial | omega) ?_
  refine s1 36 259 2 rfl rfl rfl rfl rfl rfl trivial ?_
  refine e1 267 rfl ?_
  refine keep [0, 1, 4, 5, 31, 36] rfl ?_
  refine q1 rfl (fun hc6 => ?_) (fun hc6 => ?_)
  · skip
    try simp only [cs, ne_eq] at hc6
    obtain ⟨hk, ha, ha10, hb, hb11, hcc, hd⟩ := fit
    have ha := ha (by omega) (by omega)
    refine rd0 rfl ?_
    refine d1 38 267 1 rfl rfl rfl rfl rfl rfl trivial ?_
    refine d1 39 275 2 rfl rfl rfl rfl rfl rfl trivial ?_
    refine d1 40 283 3 rfl rfl rfl rfl rfl rfl (by first | trivial | omega) ?_
    refine d1 41 291 4 rfl rfl rfl rfl rfl rfl trivial ?_
    refine d1 42 299 5 rfl rfl rfl rfl rfl rfl (by first | trivial | omega) ?_
    refine d1 43 307 6 rfl rfl rfl rfl rfl rfl trivial ?_
    refine d1 44 315 7 rfl rfl rfl rfl rfl rfl (by first | trivial | omega) ?_
    refine dSt (thrX_set (insV C) t.r (t.pc + 1) (.sl 3 0 t.told.length) t.e t.ov _ (by omega)) (thrX_len _ _ _ _ _ _ (by omega)) 323 8 rfl rfl rfl rfl rfl rfl rfl rfl (by rfl) rfl rfl ?_
    refine de1 331 rfl (by kernel_rfl) ?_
    refine bn ?_
    refine tn ?_
    refine rd0 rfl ?_
    refine d1 184 331 1 rfl rfl rfl rfl rfl rfl trivial ?_
    refine d1 185 339 2 rfl rfl rfl rfl rfl rfl trivial ?_
    refine d1 186 347 3 rfl rfl rfl rfl rfl rfl trivial ?_
    refine d1 187 355 4 rfl rfl rfl rfl rfl rfl trivial ?_
    refine d1 188 363 5 rfl rfl rfl rfl rfl rfl (by first | trivial | omega) ?_
    refine d1 189 371 6 rfl rfl rfl rfl rfl rfl trivial ?_
    refine ask 189 rfl (fun hg23_189 => ?_) (fun hg23_189 => ?_)
    · skip
      try simp only [cs, ne_eq] at hg23_189
      refine g0 5 false 189 190 7 rfl rfl rfl rfl rfl rfl ?_
      refine g0 5 false 189 191 8 rfl rfl rfl rfl rfl rfl ?_
      refine g0 5 false 189 192 9 rfl rfl rfl rfl rfl rfl ?_
      refine g0 5 false 189 193 10 rfl rfl rfl rfl rfl rfl ?_
      refine g0 5 false 189 194 11 rfl rfl rfl rfl rfl rfl ?_
      refine g0 5 false 189 195 12 rfl rfl rfl rfl rfl rfl ?_
      refine g0 5 false 189 196 13 rfl rfl rfl rfl rfl rfl ?_
      refine g0 5 false 189 197 14 rfl rfl rfl rfl rfl rfl ?_
      refine g0 5 false 189 198 15 rfl rfl rfl rfl rfl rfl ?_
      refine g0 5 false 189 199 16 rfl rfl rfl rfl rfl rfl ?_
      refine d1 200 459 17 rfl rfl rfl rfl rfl rfl trivial ?_
      refine d1 201 467 18 rfl rfl rfl rfl rfl rfl trivial ?_
      refine d1 202 475 19 rfl rfl rfl rfl rfl rfl trivial ?_
      refine d0 483 20 rfl rfl rfl rfl rfl (by first | trivial | omega) ?_
      refine de1 491 rfl (by kernel_rfl) ?_
      have hq := hp.symm.trans (step_alu hc0 (by omega) (alu_1 (by omega)) (by rw [hg23_189]))
      exact out0 (π := [0, 1, 2, 3]) (hout := [some (thrYB 3 C p.1), none, some (intsB p.2), some (intsB p.1.told)]) Tryd.results45 rfl rfl ⟨(by rw [hq]; rfl), (by rw [hq]; rfl), (by rw [hq]; rfl), trivial⟩ ⟨rfl, rfl⟩
    try simp only [cs, ne_eq] at hg23_189
    refine g1 5 false 189 190 7 rfl rfl rfl rfl rfl ?_
    refine d1 190 379 7 rfl rfl rfl rfl rfl rfl trivial ?_
    refine g1 5 false 189 191 8 rfl rfl rfl rfl rfl ?_
    refine d1 191 387 8 rfl rfl rfl rfl rfl rfl trivial ?_
    refine g1 5 false 189 192 9 rfl rfl rfl rfl rfl ?_
    refine d1 192 395 9 rfl rfl rfl rfl rfl rfl trivial ?_
    refine g1 5 false 189 193 10 rfl rfl rfl rfl rfl ?_
    refine d1 193 403 10 rfl rfl rfl rfl rfl rfl (by first | trivial | omega) ?_
    refine g1 5 false 189 194 11 rfl rfl rfl rfl rfl ?_
    refine d1 194 411 11 rfl rfl rfl rfl rfl rfl trivial ?_
    refine g1 5 false 189 195 12 rfl rfl rfl rfl rfl ?_
    refine d1 195 419 12 rfl rfl rfl rfl rfl rfl trivial ?_
    refine g1 5 false 189 196 13 rfl rfl rfl rfl rfl ?_
    refine d1 196 427 13 rfl rfl rfl rfl rfl rfl trivial ?_
    refine g1 5 false 189 197 14 rfl rfl rfl rfl rfl ?_
    refine d1 197 435 14 rfl rfl rfl rfl rfl rfl (by first | trivial | omega) ?_
    refine g1 5 false 189 198 15 rfl rfl rfl rfl rfl ?_
    refine d1 198 443 15 rfl rfl rfl rfl rfl rfl (by first | trivial | omega) ?_
    refine g1 5 false 189 199 16 rfl rfl rfl rfl rfl ?_
    refine d1 199 451 16 rfl rfl rfl rfl rfl rfl (by first | trivial | omega) ?_
    refine d1 200 459 17 rfl rfl rfl rfl rfl rfl trivial ?_
    refine d1 201 467 18 rfl rfl rfl rfl rfl rfl trivial ?_
    refine d1 202 475 19 rfl rfl rfl rfl rfl rfl trivial ?_
    refine d0 483 20 rfl rfl rfl rfl rfl (by first | trivial | omega) ?_
    refine de1 491 rfl (by kernel_rfl) ?_
    have hq := hp.symm.trans (step_alu hc0 (by omega) (alu_1 (by omega)) (by rw [hg23_189]))
    exact out0 (π := [0, 1, 2, 3]) (hout := [some (thrYB 3 C p.1), none, some (intsB p.2), some (intsB p.1.told)]) Tryd.results45 rfl rfl ⟨(by rw [hq]; rfl), (by rw [hq]; rfl), (by rw [hq]; rfl), trivial⟩ ⟨rfl, rfl⟩
  try simp only [cs, ne_eq] at hc6
  refine r1 ?_
  refine s1 46 267 1 rfl rfl rfl rfl rfl rfl (by first | trivial | omega) ?_
  refine s1 45 275 2 rfl rfl rfl rfl rfl rfl trivial ?_
  refine e1 283 rfl ?_
  refine keep [0, 1, 4, 5, 31, 45] rfl ?_
  refine q1 rfl (fun hc8 => ?_) (fun hc8 => ?_)
  · skip
    try simp only [cs, ne_eq] at hc8
    obtain ⟨hk, ha, ha10, hb, hb11, hcc, hd⟩ := fit
    have ha := ha (by omega) (by omega)
    have hb := hb (by omega)
    refine rd0 rfl ?_
    refine d1 47 283 1 rfl rfl rfl rfl rfl rfl trivial ?_
    refine d1 48 291 2 rfl rfl rfl rfl rfl rfl trivial ?_
    refine d1 49 299 3 rfl rfl rfl rfl rfl rfl (by first | trivial | omega) ?_
    refine d1 50 307 4 rfl rfl rfl rfl rfl rfl trivial ?_
    refine d1 51 315 5 rfl rfl rfl rfl rfl rfl trivial ?_
    refine d1 52 323 6 rfl rfl rfl rfl rfl rfl (by first | trivial | omega) ?_
    refine d1 53 331 7 rfl rfl rfl rfl rfl rfl trivial ?_
    refine d1 54 339 8 rfl rfl rfl rfl rfl rfl (by first | trivial | omega) ?_
    refine dLd (thrX_get (insV C) _ (t.pc + 1) (.sl 3 0 t.told.length) t.e t.ov (by omega)) 55 347 9 rfl rfl rfl rfl rfl rfl rfl rfl rfl ?_
    refine d1 56 355 10 rfl rfl rfl rfl rfl rfl trivial ?_
    refine d1 57 363 11 rfl rfl rfl rfl rfl rfl (by first | trivial | omega) ?_
    refine dSt (thrX_set (insV C) t.r (t.pc + 1) (.sl 3 0 t.told.length) t.e t.ov _ (by omega)) (thrX_len _ _ _ _ _ _ (by omega)) 371 12 rfl rfl rfl rfl rfl rfl rfl rfl (by rfl) rfl rfl ?_
    refine de1 379 rfl (by kernel_rfl) ?_
    refine bn ?_
    refine tn ?_
    refine rd0 rfl ?_
    refine d1 184 379 1 rfl rfl rfl rfl rfl rfl trivial ?_
    refine d1 185 387 2 rfl rfl rfl rfl rfl rfl trivial ?_
    refine d1 186 395 3 rfl rfl rfl rfl rfl rfl trivial ?_
    refine d1 187 403 4 rfl rfl rfl rfl rfl rfl trivial ?_
    refine d1 188 411 5 rfl rfl rfl rfl rfl rfl (by first | trivial | omega) ?_
    refine d1 189 419 6 rfl rfl rfl rfl rfl rfl trivial ?_
    refine ask 189 rfl (fun hg23_189 => ?_) (fun hg23_189 => ?_)
    · skip
      try simp only [cs, ne_eq] at hg23_189
      refine g0 5 false 189 190 7 rfl rfl rfl rfl rfl rfl ?_
      refine g0 5 false 189 191 8 rfl rfl rfl rfl rfl rfl ?_
      refine g0 5 false 189 192 9 rfl rfl rfl rfl rfl rfl ?_
      refine g0 5 false 189 193 10 rfl rfl rfl rfl rfl rfl ?_
      refine g0 5 false 189 194 11 rfl rfl rfl rfl rfl rfl ?_
      refine g0 5 false 189 195 12 rfl rfl rfl rfl rfl rfl ?_
      refine g0 5 false 189 196 13 rfl rfl rfl rfl rfl rfl ?_
      refine g0 5 false 189 197 14 rfl rfl rfl rfl rfl rfl ?_
      refine g0 5 false 189 198 15 rfl rfl rfl rfl rfl rfl ?_
      refine g0 5 false 189 199 16 rfl rfl rfl rfl rfl rfl ?_
      refine d1 200 507 17 rfl rfl rfl rfl rfl rfl trivial ?_
      refine d1 201 515 18 rfl rfl rfl rfl rfl rfl trivial ?_
      refine d1 202 523 19 rfl rfl rfl rfl rfl rfl trivial ?_
      refine d0 531 20 rfl rfl rfl rfl rfl (by first | trivial | omega) ?_
      refine de1 539 rfl (by kernel_rfl) ?_
      have hq := hp.symm.trans (step_alu hc0 (by omega) (alu_2 (by omega)) (by rw [hg23_189]))
      exact out0 (π := [0, 1, 2, 3]) (hout := [some (thrYB 3 C p.1), none, some (intsB p.2), some (intsB p.1.told)]) Tryd.results45 rfl rfl ⟨(by rw [hq]; rfl), (by rw [hq]; rfl), (by rw [hq]; rfl), trivial⟩ ⟨rfl, rfl⟩
    try simp only [cs, ne_eq] at hg23_189
    refine g1 5 false 189 190 7 rfl rfl rfl rfl rfl ?_
    refine d1 190 427 7 rfl rfl rfl rfl rfl rfl trivial ?_
    refine g1 5 false 189 191 8 rfl rfl rfl rfl rfl ?_
    refine d1 191 435 8 rfl rfl rfl rfl rfl rfl trivial ?_
    refine g1 5 false 189 192 9 rfl rfl rfl rfl rfl ?_
    refine d1 192 443 9 rfl rfl rfl rfl rfl rfl trivial ?_
    refine g1 5 false 189 193 10 rfl rfl rfl rfl rfl ?_
    refine d1 193 451 10 rfl rfl rfl rfl rfl rfl (by first | trivial | omega) ?_
    refine g1 5 false 189 194 11 rfl rfl rfl rfl rfl ?_
    refine d1 194 459 11 rfl rfl rfl rfl rfl rfl trivial ?_
    refine g1 5 false 189 195 12 rfl rfl rfl rfl rfl ?_
    refine d1 195 467 12 rfl rfl rfl rfl rfl rfl trivial ?_
    refine g1 5 false 189 196 13 rfl rfl rfl rfl rfl ?_
    refine d1 196 475 13 rfl rfl rfl rfl rfl rfl trivial ?_
    refine g1 5 false 189 197 14 rfl rfl rfl rfl rfl ?_
    refine d1 197 483 14 rfl rfl rfl rfl rfl rfl (by first | trivial | omega) ?_
    refine g1 5 false 189 198 15 rfl rfl rfl rfl rfl ?_
    refine d1 198 491 15 rfl rfl rfl rfl rfl rfl (by first | trivial | omega) ?_
    refine g1 5 false 189 199 16 rfl rfl rfl rfl rfl ?_
    refine d1 199 499 16 rfl rfl rfl rfl rfl rfl (by first | trivial | omega) ?_
    refine d1 200 507 17 rfl rfl rfl rfl rfl rfl trivial ?_
    refine d1 201 515 18 rfl rfl rfl rfl rfl rfl trivial ?_
    refine d1 202 523 19 rfl rfl rfl rfl rfl rfl trivial ?_
    refine d0 531 20 rfl rfl rfl rfl rfl (by first | trivial | omega) ?_
    refine de1 539 rfl (by kernel_rfl) ?_
    have hq := hp.symm.trans (step_alu hc0 (by omega) (alu_2 (by omega)) (by rw [hg23_189]))
    exact out0 (π := [0, 1, 2, 3]) (hout := [some (thrYB 3 C p.1), none, some (intsB p.2), some (intsB p.1.told)]) Tryd.results45 rfl rfl ⟨(by rw [hq]; rfl), (by rw [hq]; rfl), (by rw [hq]; rfl), trivial⟩ ⟨rfl, rfl⟩
  try simp only [cs, ne_eq] at hc8
  refine r1 ?_
  refine s1 59 283 1 rfl rfl rfl rfl rfl rfl (by first | trivial | omega) ?_
  refine s1 58 291 2 rfl rfl rfl rfl rfl rfl trivial ?_
  refine e1 299 rfl ?_
  refine keep [0, 1, 4, 5, 31, 58] rfl ?_
  refine q1 rfl (fun hc10 => ?_) (fun hc10 => ?_)
  · skip
    try simp only [cs, ne_eq] at hc10
    obtain ⟨hk, ha, ha10, hb, hb11, hcc, hd⟩ := fit
    have ha := ha (by omega) (by omega)
    have hb := hb (by omega)
    have hcc := hcc (by omega)
    refine rd0 rfl ?_
    refine d1 60 299 1 rfl rfl rfl rfl rfl rfl trivial ?_
    refine d1 61 307 2 rfl rfl rfl rfl rfl rfl trivial ?_
    refine d1 62 315 3 rfl rfl rfl rfl rfl rfl (by first | trivial | omega) ?_
    refine d1 63 323 4 rfl rfl rfl rfl rfl rfl trivial ?_
    refine d1 64 331 5 rfl rfl rfl rfl rfl rfl trivial ?_
    refine d1 65 339 6 rfl rfl rfl rfl rfl rfl (by first | trivial | omega) ?_
    refine d1 66 347 7 rfl rfl rfl rfl rfl rfl trivial ?_
    refine d1 67 355 8 rfl rfl rfl rfl rfl rfl (by first | trivial | omega) ?_
    refine dLd (thrX_get (insV C) _ (t.pc + 1) (.sl 3 0 t.told.length) t.e t.ov (by omega)) 68 363 9 rfl rfl rfl rfl rfl rfl rfl rfl rfl ?_
    refine d1 69 371 10 rfl rfl rfl rfl rfl rfl trivial ?_
    refine d1 70 379 11 rfl rfl rfl rfl rfl rfl trivial ?_
    refine d1 71 387 12 rfl rfl rfl rfl rfl rfl (by first | trivial | omega) ?_
    refine d1 72 395 13 rfl rfl rfl rfl rfl rfl trivial ?_
    refine d1 73 403 14 rfl rfl rfl rfl rfl rfl (by first | trivial | omega) ?_
    refine dLd (thrX_get (insV C) _ (t.pc + 1) (.sl 3 0 t.told.length) t.e t.ov (by omega)) 74 411 15 rfl rfl rfl rfl rfl rfl rfl rfl rfl ?_
    refine d1 75 419 16 rfl rfl rfl rfl rfl rfl (by first | trivial | omega) ?_
    refine d1 76 427 17 rfl rfl rfl rfl rfl rfl trivial ?_
    refine d1 77 435 18 rfl rfl rfl rfl rfl rfl (by first | trivial | omega) ?_
    refine dSt (thrX_set (insV C) t.r (t.pc + 1) (.sl 3 0 t.told.length) t.e t.ov _ (by omega)) (thrX_len _ _ _ _ _ _ (by omega)) 443 19 rfl rfl rfl rfl rfl rfl rfl rfl (by rfl) rfl rfl ?_
    refine de1 451 rfl (by kernel_rfl) ?_
    refine bn ?_
    refine tn ?_
    refine rd0 rfl ?_
    refine d1 184 451 1 rfl rfl rfl rfl rfl rfl trivial ?_
    refine d1 185 459 2 rfl rfl rfl rfl rfl rfl trivial ?_
    refine d1 186 467 3 rfl rfl rfl rfl rfl rfl trivial ?_
    refine d1 187 475 4 rfl rfl rfl rfl rfl rfl trivial ?_
    refine d1 188 483 5 rfl rfl rfl rfl rfl rfl (by first | trivial | omega) ?_
    refine d1 189 491 6 rfl rfl rfl rfl rfl rfl trivial ?_
    refine ask 189 rfl (fun hg23_189 => ?_) (fun hg23_189 => ?_)
    · skip
      try simp only [cs, ne_eq] at hg23_189
      refine g0 5 false 189 190 7 rfl rfl rfl rfl rfl rfl ?_
      refine g0 5 false 189 191 8 rfl rfl rfl rfl rfl rfl ?_
      refine g0 5 false 189 192 9 rfl rfl rfl rfl rfl rfl ?_
      refine g0 5 false 189 193 10 rfl rfl rfl rfl rfl rfl ?_
      refine g0 5 false 189 194 11 rfl rfl rfl rfl rfl rfl ?_
      refine g0 5 false 189 195 12 rfl rfl rfl rfl rfl rfl ?_
      refine g0 5 false 189 196 13 rfl rfl rfl rfl rfl rfl ?_
      refine g0 5 false 189 197 14 rfl rfl rfl rfl rfl rfl ?_
      refine g0 5 false 189 198 15 rfl rfl rfl rfl rfl rfl ?_
      refine g0 5 false 189 199 16 rfl rfl rfl rfl rfl rfl ?_
      refine d1 200 579 17 rfl rfl rfl rfl rfl rfl trivial ?_
      refine d1 201 587 18 rfl rfl rfl rfl rfl rfl trivial ?_
      refine d1 202 595 19 rfl rfl rfl rfl rfl rfl trivial ?_
      refine d0 603 20 rfl rfl rfl rfl rfl (by first | trivial | omega) ?_
      refine de1 611 rfl (by kernel_rfl) ?_
      have hq := hp.symm.trans (step_alu hc0 (by omega) (alu_3 (by omega)) (by rw [hg23_189]))
      exact out0 (π := [0, 1, 2, 3]) (hout := [some (thrYB 3 C p.1), none, some (intsB p.2), some (intsB p.1.told)]) Tryd.results45 rfl rfl ⟨(by rw [hq]; rfl), (by rw [hq]; rfl), (by rw [hq]; rfl), trivial⟩ ⟨rfl, rfl⟩
    try simp only [cs, ne_eq] at hg23_189
    refine g1 5 false 189 190 7 rfl rfl rfl rfl rfl ?_
    refine d1 190 499 7 rfl rfl rfl rfl rfl rfl trivial ?_
    refine g1 5 false 189 191 8 rfl rfl rfl rfl rfl ?_
    refine d1 191 507 8 rfl rfl rfl rfl rfl rfl trivial ?_
    refine g1 5 false 189 192 9 rfl rfl rfl rfl rfl ?_
    refine d1 192 515 9 rfl rfl rfl rfl rfl rfl trivial ?_
    refine g1 5 false 189 193 10 rfl rfl rfl rfl rfl ?_
    refine d1 193 523 10 rfl rfl rfl rfl rfl rfl (by first | trivial | omega) ?_
    refine g1 5 false 189 194 11 rfl rfl rfl rfl rfl ?_
    refine d1 194 531 11 rfl rfl rfl rfl rfl rfl trivial ?_
    refine g1 5 false 189 195 12 rfl rfl rfl rfl rfl ?_
    refine d1 195 539 12 rfl rfl rfl rfl rfl rfl trivial ?_
    refine g1 5 false 189 196 13 rfl rfl rfl rfl rfl ?_
    refine d1 196 547 13 rfl rfl rfl rfl rfl rfl trivial ?_
    refine g1 5 false 189 197 14 rfl rfl rfl rfl rfl ?_
    refine d1 197 555 14 rfl rfl rfl rfl rfl rfl (by first | trivial | omega) ?_
    refine g1 5 false 189 198 15 rfl rfl rfl rfl rfl ?_
    refine d1 198 563 15 rfl rfl rfl rfl rfl rfl (by first | trivial | omega) ?_
    refine g1 5 false 189 199 16 rfl rfl rfl rfl rfl ?_
    refine d1 199 571 16 rfl rfl rfl rfl rfl rfl (by first | trivial | omega) ?_
    refine d1 200 579 17 rfl rfl rfl rfl rfl rfl trivial ?_
    refine d1 201 587 18 rfl rfl rfl rfl rfl rfl trivial ?_
    refine d1 202 595 19 rfl rfl rfl rfl rfl rfl trivial ?_
    refine d0 603 20 rfl rfl rfl rfl rfl (by first | trivial | omega) ?_
    refine de1 611 rfl (by kernel_rfl) ?_
    have hq := hp.symm.trans (step_alu hc0 (by omega) (alu_3 (by omega)) (by rw [hg23_189]))
    exact out0 (π := [0, 1, 2, 3]) (hout := [some (thrYB 3 C p.1), none, some (intsB p.2), some (intsB p.1.told)]) Tryd.results45 rfl rfl ⟨(by rw [hq]; rfl), (by rw [hq]; rfl), (by rw [hq]; rfl), trivial⟩ ⟨rfl, rfl⟩
  try simp only [cs, ne_eq] at hc10
  refine r1 ?_
  refine s1 79 299 1 rfl rfl rfl rfl rfl rfl (by first | trivial | omega) ?_
  refine s1 78 307 2 rfl rfl rfl rfl rfl rfl trivial ?_
  refine e1 315 rfl ?_
  refine keep [0, 1, 4, 5, 31, 78] rfl ?_
  refine q1 rfl (fun hc12 => ?_) (fun hc12 => ?_)
  · skip
    try simp only [cs, ne_eq] at hc12
    obtain ⟨hk, ha, ha10, hb, hb11, hcc, hd⟩ := fit
    have ha := ha (by omega) (by omega)
    have hb := hb (by omega)
    have hcc := hcc (by omega)
    refine rd0 rfl ?_
    refine d1 80 315 1 rfl rfl rfl rfl rfl rfl trivial ?_
    refine d1 81 323 2 rfl rfl rfl rfl rfl rfl trivial ?_
    refine d1 82 331 3 rfl rfl rfl rfl rfl rfl (by first | trivial | omega) ?_
    refine d1 83 339 4 rfl rfl rfl rfl rfl rfl trivial ?_
    refine d1 84 347 5 rfl rfl rfl rfl rfl rfl trivial ?_
    refine d1 85 355 6 rfl rfl rfl rfl rfl rfl (by first | trivial | omega) ?_
    refine d1 86 363 7 rfl rfl rfl rfl rfl rfl trivial ?_
    refine d1 87 371 8 rfl rfl rfl rfl rfl rfl (by first | trivial | omega) ?_
    refine dLd (thrX_get (insV C) _ (t.pc + 1) (.sl 3 0 t.told.length) t.e t.ov (by omega)) 88 379 9 rfl rfl rfl rfl rfl rfl rfl rfl rfl ?_
    refine d1 89 387 10 rfl rfl rfl rfl rfl rfl trivial ?_
    refine d1 90 395 11 rfl rfl rfl rfl rfl rfl trivial ?_
    refine d1 91 403 12 rfl rfl rfl rfl rfl rfl (by first | trivial | omega) ?_
    refine d1 92 411 13 rfl rfl rfl rfl rfl rfl trivial ?_
    refine d1 93 419 14 rfl rfl rfl rfl rfl rfl (by first | trivial | omega) ?_
    refine dLd (thrX_get (insV C) _ (t.pc + 1) (.sl 3 0 t.told.length) t.e t.ov (by omega)) 94 427 15 rfl rfl rfl rfl rfl rfl rfl rfl rfl ?_
    refine d1 95 435 16 rfl rfl rfl rfl rfl rfl (by first | trivial | omega) ?_
    refine d1 96 443 17 rfl rfl rfl rfl rfl rfl trivial ?_
    refine d1 97 451 18 rfl rfl rfl rfl rfl rfl (by first | trivial | omega) ?_
    refine dSt (thrX_set (insV C) t.r (t.pc + 1) (.sl 3 0 t.told.length) t.e t.ov _ (by omega)) (thrX_len _ _ _ _ _ _ (by omega)) 459 19 rfl rfl rfl rfl rfl rfl rfl rfl (by rfl) rfl rfl ?_
    refine de1 467 rfl (by kernel_rfl) ?_
    refine bn ?_
    refine tn ?_
    refine rd0 rfl ?_
    refine d1 184 467 1 rfl rfl rfl rfl rfl rfl trivial ?_
    refine d1 185 475 2 rfl rfl rfl rfl rfl rfl trivial ?_
    refine d1 186 483 3 rfl rfl rfl rfl rfl rfl trivial ?_
    refine d1 187 491 4 rfl rfl rfl rfl rfl rfl trivial ?_
    refine d1 188 499 5 rfl rfl rfl rfl rfl rfl (by first | trivial | omega) ?_
    refine d1 189 507 6 rfl rfl rfl rfl rfl rfl trivial ?_
    refine ask 189 rfl (fun hg23_189 => ?_) (fun hg23_189 => ?_)
    · skip
      try simp only [cs, ne_eq] at hg23_189
      refine g0 5 false 189 190 7 rfl rfl rfl rfl rfl rfl ?_
      refine g0 5 false 189 191 8 rfl rfl rfl rfl rfl rfl ?_
      refine g0 5 false 189 192 9 rfl rfl rfl rfl rfl rfl ?_
      refine g0 5 false 189 193 10 rfl rfl rfl rfl rfl rfl ?_
      refine g0 5 false 189 194 11 rfl rfl rfl rfl rfl rfl ?_
      refine g0 5 false 189 195 12 rfl rfl rfl rfl rfl rfl ?_
      refine g0 5 false 189 196 13 rfl rfl rfl rfl rfl rfl ?_
      refine g0 5 false 189 197 14 rfl rfl rfl rfl rfl rfl ?_
      refine g0 5 false 189 198 15 rfl rfl rfl rfl rfl rfl ?_
      refine g0 5 false 189 199 16 rfl rfl rfl rfl rfl rfl ?_
      refine d1 200 595 17 rfl rfl rfl rfl rfl rfl trivial ?_
      refine d1 201 603 18 rfl rfl rfl rfl rfl rfl trivial ?_
      refine d1 202 611 19 rfl rfl rfl rfl rfl rfl trivial ?_
      refine d0 619 20 rfl rfl rfl rfl rfl (by first | trivial | omega) ?_
      refine de1 627 rfl (by kernel_rfl) ?_
      have hq := hp.symm.trans (step_alu hc0 (by omega) (alu_4 (by omega)) (by rw [hg23_189]))
      exact out0 (π := [0, 1, 2, 3]) (hout := [some (thrYB 3 C p.1), none, some (intsB p.2), some (intsB p.1.told)]) Tryd.results45 rfl rfl ⟨(by rw [hq]; rfl), (by rw [hq]; rfl), (by rw [hq]; rfl), trivial⟩ ⟨rfl, rfl⟩
    try simp only [cs, ne_eq] at hg23_189
    refine g1 5 false 189 190 7 rfl rfl rfl rfl rfl ?_
    refine d1 190 515 7 rfl rfl rfl rfl rfl rfl trivial ?_
    refine g1 5 false 189 191 8 rfl rfl rfl rfl rfl ?_
    refine d1 191 523 8 rfl rfl rfl rfl rfl rfl trivial ?_
    refine g1 5 false 189 192 9 rfl rfl rfl rfl rfl ?_
    refine d1 192 531 9 rfl rfl rfl rfl rfl rfl trivial ?_
    refine g1 5 false 189 193 10 rfl rfl rfl rfl rfl ?_
    refine d1 193 539 10 rfl rfl rfl rfl rfl rfl (by first | trivial | omega) ?_
    refine g1 5 false 189 194 11 rfl rfl rfl rfl rfl ?_
    refine d1 194 547 11 rfl rfl rfl rfl rfl rfl trivial ?_
    refine g1 5 false 189 195 12 rfl rfl rfl rfl rfl ?_
    refine d1 195 555 12 rfl rfl rfl rfl rfl rfl trivial ?_
    refine g1 5 false 189 196 13 rfl rfl rfl rfl rfl ?_
    refine d1 196 563 13 rfl rfl rfl rfl rfl rfl trivial ?_
    refine g1 5 false 189 197 14 rfl rfl rfl rfl rfl ?_
    refine d1 197 571 14 rfl rfl rfl rfl rfl rfl (by first | trivial | omega) ?_
    refine g1 5 false 189 198 15 rfl rfl rfl rfl rfl ?_
    refine d1 198 579 15 rfl rfl rfl rfl rfl rfl (by first | trivial | omega) ?_
    refine g1 5 false 189 199 16 rfl rfl rfl rfl rfl ?_
    refine d1 199 587 16 rfl rfl rfl rfl rfl rfl (by first | trivial | omega) ?_
    refine d1 200 595 17 rfl rfl rfl rfl rfl rfl trivial ?_
    refine d1 201 603 18 rfl rfl rfl rfl rfl rfl trivial ?_
    refine d1 202 611 19 rfl rfl rfl rfl rfl rfl trivial ?_
    refine d0 619 20 rfl rfl rfl rfl rfl (by first | trivial | omega) ?_
    refine de1 627 rfl (by kernel_rfl) ?_
    have hq := hp.symm.trans (step_alu hc0 (by omega) (alu_4 (by omega)) (by rw [hg23_189]))
    exact out0 (π := [0, 1, 2, 3]) (hout := [some (thrYB 3 C p.1), none, some (intsB p.2), some (intsB p.1.told)]) Tryd.results45 rfl rfl ⟨(by rw [hq]; rfl), (by rw [hq]; rfl), (by rw [hq]; rfl), trivial⟩ ⟨rfl, rfl⟩
  try simp only [cs, ne_eq] at hc12
  refine r1 ?_
  refine s1 99 315 1 rfl rfl rfl rfl rfl rfl (by first | trivial | omega) ?_
  refine s1 98 323 2 rfl rfl rfl rfl rfl rfl trivial ?_
  refine e1 331 rfl ?_
  refine keep [0, 1, 4, 5, 31, 98] rfl ?_
  refine q1 rfl (fun hc14 => ?_) (fun hc14 => ?_)
  · skip
    try simp only [cs, ne_eq] at hc14
    obtain ⟨hk, ha, ha10, hb, hb11, hcc, hd⟩ := fit
    have ha := ha (by omega) (by omega)
    have hb := hb (by omega)
    have hcc := hcc (by omega)
    refine rd0 rfl ?_
    refine d1 100 331 1 rfl rfl rfl rfl rfl rfl trivial ?_
    refine d1 101 339 2 rfl rfl rfl rfl rfl rfl trivial ?_
    refine d1 102 347 3 rfl rfl rfl rfl rfl rfl (by first | trivial | omega) ?_
    refine d1 103 355 4 rfl rfl rfl rfl rfl rfl trivial ?_
    refine d1 104 363 5 rfl rfl rfl rfl rfl rfl trivial ?_
    refine d1 105 371 6 rfl rfl rfl rfl rfl rfl (by first | trivial | omega) ?_
    refine d1 106 379 7 rfl rfl rfl rfl rfl rfl trivial ?_
    refine d1 107 387 8 rfl rfl rfl rfl rfl rfl (by first | trivial | omega) ?_
    refine dLd (thrX_get (insV C) _ (t.pc + 1) (.sl 3 0 t.told.length) t.e t.ov (by omega)) 108 395 9 rfl rfl rfl rfl rfl rfl rfl rfl rfl ?_
    refine d1 109 403 10 rfl rfl rfl rfl rfl rfl trivial ?_
    refine d1 110 411 11 rfl rfl rfl rfl rfl rfl trivial ?_
    refine d1 111 419 12 rfl rfl rfl rfl rfl rfl (by first | trivial | omega) ?_
    refine d1 112 427 13 rfl rfl rfl rfl rfl rfl trivial ?_
    refine d1 113 435 14 rfl rfl rfl rfl rfl rfl (by first | trivial | omega) ?_
    refine dLd (thrX_get (insV C) _ (t.pc + 1) (.sl 3 0 t.told.length) t.e t.ov (by omega)) 114 443 15 rfl rfl rfl rfl rfl rfl rfl rfl rfl ?_
    refine d1 115 451 16 rfl rfl rfl rfl rfl rfl (by first | trivial | omega) ?_
    refine d1 116 459 17 rfl rfl rfl rfl rfl rfl trivial ?_
    refine d1 117 467 18 rfl rfl rfl rfl rfl rfl (by first | trivial | omega) ?_
    refine dSt (thrX_set (insV C) t.r (t.pc + 1) (.sl 3 0 t.told.length) t.e t.ov _ (by omega)) (thrX_len _ _ _ _ _ _ (by omega)) 475 19 rfl rfl rfl rfl rfl rfl rfl rfl (by rfl) rfl rfl ?_
    refine de1 483 rfl (by kernel_rfl) ?_
    refine bn ?_
    refine tn ?_
    refine rd0 rfl ?_
    refine d1 184 483 1 rfl rfl rfl rfl rfl rfl trivial ?_
    refine d1 185 491 2 rfl rfl rfl rfl rfl rfl trivial ?_
    refine d1 186 499 3 rfl rfl rfl rfl rfl rfl trivial ?_
    refine d1 187 507 4 rfl rfl rfl rfl rfl rfl trivial ?_
    refine d1 188 515 5 rfl rfl rfl rfl rfl rfl (by first | trivial | omega) ?_
    refine d1 189 523 6 rfl rfl rfl rfl rfl rfl trivial ?_
    refine ask 189 rfl (fun hg23_189 => ?_) (fun hg23_189 => ?_)
    · skip
      try simp only [cs, ne_eq] at hg23_189
      refine g0 5 false 189 190 7 rfl rfl rfl rfl rfl rfl ?_
      refine g0 5 false 189 191 8 rfl rfl rfl rfl rfl rfl ?_
      refine g0 5 false 189 192 9 rfl rfl rfl rfl rfl rfl ?_
      refine g0 5 false 189 193 10 rfl rfl rfl rfl rfl rfl ?_
      refine g0 5 false 189 194 11 rfl rfl rfl rfl rfl rfl ?_
      refine g0 5 false 189 195 12 rfl rfl rfl rfl rfl rfl ?_
      refine g0 5 false 189 196 13 rfl rfl rfl rfl rfl rfl ?_
      refine g0 5 false 189 197 14 rfl rfl rfl rfl rfl rfl ?_
      refine g0 5 false 189 198 15 rfl rfl rfl rfl rfl rfl ?_
      refine g0 5 false 189 199 16 rfl rfl rfl rfl rfl rfl ?_
      refine d1 200 611 17 rfl rfl rfl rfl rfl rfl trivial ?_
      refine d1 201 619 18 rfl rfl rfl rfl rfl rfl trivial ?_
      refine d1 202 627 19 rfl rfl rfl rfl rfl rfl trivial ?_
      refine d0 635 20 rfl rfl rfl rfl rfl (by first | trivial | omega) ?_
      refine de1 643 rfl (by kernel_rfl) ?_
      have hq := hp.symm.trans (step_alu hc0 (by omega) (alu_5 (by omega)) (by rw [hg23_189]))
      exact out0 (π := [0, 1, 2, 3]) (hout := [some (thrYB 3 C p.1), none, some (intsB p.2), some (intsB p.1.told)]) Tryd.results45 rfl rfl ⟨(by rw [hq]; rfl), (by rw [hq]; rfl), (by rw [hq]; rfl), trivial⟩ ⟨rfl, rfl⟩
    try simp only [cs, ne_eq] at hg23_189
    refine g1 5 false 189 190 7 rfl rfl rfl rfl rfl ?_
    refine d1 190 531 7 rfl rfl rfl rfl rfl rfl trivial ?_
    refine g1 5 false 189 191 8 rfl rfl rfl rfl rfl ?_
    refine d1 191 539 8 rfl rfl rfl rfl rfl rfl trivial ?_
    refine g1 5 false 189 192 9 rfl rfl rfl rfl rfl ?_
    refine d1 192 547 9 rfl rfl rfl rfl rfl rfl trivial ?_
    refine g1 5 false 189 193 10 rfl rfl rfl rfl rfl ?_
    refine d1 193 555 10 rfl rfl rfl rfl rfl rfl (by first | trivial | omega) ?_
    refine g1 5 false 189 194 11 rfl rfl rfl rfl rfl ?_
    refine d1 194 563 11 rfl rfl rfl rfl rfl rfl trivial ?_
    refine g1 5 false 189 195 12 rfl rfl rfl rfl rfl ?_
    refine d1 195 571 12 rfl rfl rfl rfl rfl rfl trivial ?_
    refine g1 5 false 189 196 13 rfl rfl rfl rfl rfl ?_
    refine d1 196 579 13 rfl rfl rfl rfl rfl rfl trivial ?_
    refine g1 5 false 189 197 14 rfl rfl rfl rfl rfl ?_
    refine d1 197 587 14 rfl rfl rfl rfl rfl rfl (by first | trivial | omega) ?_
    refine g1 5 false 189 198 15 rfl rfl rfl rfl rfl ?_
    refine d1 198 595 15 rfl rfl rfl rfl rfl rfl (by first | trivial | omega) ?_
    refine g1 5 false 189 199 16 rfl rfl rfl rfl rfl ?_
    refine d1 199 603 16 rfl rfl rfl rfl rfl rfl (by first | trivial | omega) ?_
    refine d1 200 611 17 rfl rfl rfl rfl rfl rfl trivial ?_
    refine d1 201 619 18 rfl rfl rfl rfl rfl rfl trivial ?_
    refine d1 202 627 19 rfl rfl rfl rfl rfl rfl trivial ?_
    refine d0 635 20 rfl rfl rfl rfl rfl (by first | trivial | omega) ?_
    refine de1 643 rfl (by kernel_rfl) ?_
    have hq := hp.symm.trans (step_alu hc0 (by omega) (alu_5 (by omega)) (by rw [hg23_189]))
    exact out0 (π := [0, 1, 2, 3]) (hout := [some (thrYB 3 C p.1), none, some (intsB p.2), some (intsB p.1.told)]) Tryd.results45 rfl rfl ⟨(by rw [hq]; rfl), (by rw [hq]; rfl), (by rw [hq]; rfl), trivial⟩ ⟨rfl, rfl⟩
  try simp only [cs, ne_eq] at hc14
  refine W_seq ?_
  refine r1 ?_
  refine s1 119 331 1 rfl rfl rfl rfl rfl rfl (by first | trivial | omega) ?_
  refine s1 118 339 2 rfl rfl rfl rfl rfl rfl trivial ?_
  refine e1 347 rfl ?_
  refine keep [0, 1, 4, 5, 31, 118] rfl ?_
  refine q1 rfl (fun hc16 => ?_) (fun hc16 => ?_)
  · skip
    try simp only [cs, ne_eq] at hc16
    refine W_skip ?_
    refine tn ?_
    refine q1 rfl (fun hc16 => ?_) (fun hc16 => ?_)
    · skip
      try simp only [cs, ne_eq] at hc16
      obtain ⟨hk, ha, ha10, hb, hb11, hcc, hd⟩ := fit
      have ha := ha (by omega) (by omega)
      have hb := hb (by omega)
      have hcc := hcc (by omega)
      refine rd0 rfl ?_
      refine d1 121 347 1 rfl rfl rfl rfl rfl rfl trivial ?_
      refine d1 122 355 2 rfl rfl rfl rfl rfl rfl trivial ?_
      refine d1 123 363 3 rfl rfl rfl rfl rfl rfl (by first | trivial | omega) ?_
      refine d1 124 371 4 rfl rfl rfl rfl rfl rfl trivial ?_
      refine d1 125 379 5 rfl rfl rfl rfl rfl rfl trivial ?_
      refine d1 126 387 6 rfl rfl rfl rfl rfl rfl (by first | trivial | omega) ?_
      refine d1 127 395 7 rfl rfl rfl rfl rfl rfl trivial ?_
      refine d1 128 403 8 rfl rfl rfl rfl rfl rfl (by first | trivial | omega) ?_
      refine dLd (thrX_get (insV C) _ (t.pc + 1) (.sl 3 0 t.told.length) t.e t.ov (by omega)) 129 411 9 rfl rfl rfl rfl rfl rfl rfl rfl rfl ?_
      refine d1 130 419 10 rfl rfl rfl rfl rfl rfl trivial ?_
      refine d1 131 427 11 rfl rfl rfl rfl rfl rfl trivial ?_
      refine d1 132 435 12 rfl rfl rfl rfl rfl rfl (by first | trivial | omega) ?_
      refine d1 133 443 13 rfl rfl rfl rfl rfl rfl trivial ?_
      refine d1 134 451 14 rfl rfl rfl rfl rfl rfl (by first | trivial | omega) ?_
      refine dLd (thrX_get (insV C) _ (t.pc + 1) (.sl 3 0 t.told.length) t.e t.ov (by omega)) 135 459 15 rfl rfl rfl rfl rfl rfl rfl rfl rfl ?_
      refine d1 136 467 16 rfl rfl rfl rfl rfl rfl trivial ?_
      refine d1 137 475 17 rfl rfl rfl rfl rfl rfl (by first | trivial | omega) ?_
      refine d1 138 483 18 rfl rfl rfl rfl rfl rfl (by first | trivial | omega) ?_
      refine dc1 (quo_any _ _ ((C.getD t.pc.toNat default).k == 7)) [] [] 139 491 19 rfl rfl rfl rfl rfl rfl rfl rfl Tryd.func63 rfl rfl rfl rfl trivial rfl rfl ?_
      refine d1 140 499 20 rfl rfl rfl rfl rfl rfl trivial ?_
      refine d1 141 507 21 rfl rfl rfl rfl rfl rfl (by first | trivial | omega) ?_
      refine dSt (thrX_set (insV C) t.r (t.pc + 1) (.sl 3 0 t.told.length) t.e t.ov _ (by omega)) (thrX_len _ _ _ _ _ _ (by omega)) 515 22 rfl rfl rfl rfl rfl rfl rfl rfl (by rfl) rfl rfl ?_
      refine de1 523 rfl (by kernel_rfl) ?_
      refine bn ?_
      refine tn ?_
      refine rd0 rfl ?_
      refine d1 184 523 1 rfl rfl rfl rfl rfl rfl trivial ?_
      refine d1 185 531 2 rfl rfl rfl rfl rfl rfl trivial ?_
      refine d1 186 539 3 rfl rfl rfl rfl rfl rfl trivial ?_
      refine d1 187 547 4 rfl rfl rfl rfl rfl rfl trivial ?_
      refine d1 188 555 5 rfl rfl rfl rfl rfl rfl (by first | trivial | omega) ?_
      refine d1 189 563 6 rfl rfl rfl rfl rfl rfl trivial ?_
      refine ask 189 rfl (fun hg23_189 => ?_) (fun hg23_189 => ?_)
      · skip
        try simp only [cs, ne_eq] at hg23_189
        refine g0 5 false 189 190 7 rfl rfl rfl rfl rfl rfl ?_
        refine g0 5 false 189 191 8 rfl rfl rfl rfl rfl rfl ?_
        refine g0 5 false 189 192 9 rfl rfl rfl rfl rfl rfl ?_
        refine g0 5 false 189 193 10 rfl rfl rfl rfl rfl rfl ?_
        refine g0 5 false 189 194 11 rfl rfl rfl rfl rfl rfl ?_
        refine g0 5 false 189 195 12 rfl rfl rfl rfl rfl rfl ?_
        refine g0 5 false 189 196 13 rfl rfl rfl rfl rfl rfl ?_
        refine g0 5 false 189 197 14 rfl rfl rfl rfl rfl rfl ?_
        refine g0 5 false 189 198 15 rfl rfl rfl rfl rfl rfl ?_
        refine g0 5 false 189 199 16 rfl rfl rfl rfl rfl rfl ?_
        refine d1 200 651 17 rfl rfl rfl rfl rfl rfl trivial ?_
        refine d1 201 659 18 rfl rfl rfl rfl rfl rfl trivial ?_
        refine d1 202 667 19 rfl rfl rfl rfl rfl rfl trivial ?_
        refine d0 675 20 rfl rfl rfl rfl rfl (by first | trivial | omega) ?_
        refine de1 683 rfl (by kernel_rfl) ?_
        have hq := hp.symm.trans (step_alu hc0 (by omega) (by first | exact alu_6 (by omega) | exact alu_7 (by omega)) (by rw [hg23_189]))
        exact out0 (π := [0, 1, 2, 3]) (hout := [some (thrYB 3 C p.1), none, some (intsB p.2), some (intsB p.1.told)]) Tryd.results45 rfl rfl ⟨(by rw [hq]; rfl), (by rw [hq]; rfl), (by rw [hq]; rfl), trivial⟩ ⟨rfl, rfl⟩
      try simp only [cs, ne_eq] at hg23_189
      refine g1 5 false 189 190 7 rfl rfl rfl rfl rfl ?_
      refine d1 190 571 7 rfl rfl rfl rfl rfl rfl trivial ?_
      refine g1 5 false 189 191 8 rfl rfl rfl rfl rfl ?_
      refine d1 191 579 8 rfl rfl rfl rfl rfl rfl trivial ?_
      refine g1 5 false 189 192 9 rfl rfl rfl rfl rfl ?_
      refine d1 192 587 9 rfl rfl rfl rfl rfl rfl trivial ?_
      refine g1 5 false 189 193 10 rfl rfl rfl rfl rfl ?_
      refine d1 193 595 10 rfl rfl rfl rfl rfl rfl (by first | trivial | omega) ?_
      refine g1 5 false 189 194 11 rfl rfl rfl rfl rfl ?_
      refine d1 194 603 11 rfl rfl rfl rfl rfl rfl trivial ?_
      refine g1 5 false 189 195 12 rfl rfl rfl rfl rfl ?_
      refine d1 195 611 12 rfl rfl rfl rfl rfl rfl trivial ?_
      refine g1 5 false 189 196 13 rfl rfl rfl rfl rfl ?_
      refine d1 196 619 13 rfl rfl rfl rfl rfl rfl trivial ?_
      refine g1 5 false 189 197 14 rfl rfl rfl rfl rfl ?_
      refine d1 197 627 14 rfl rfl rfl rfl rfl rfl (by first | trivial | omega) ?_
      refine g1 5 false 189 198 15 rfl rfl rfl rfl rfl ?_
      refine d1 198 635 15 rfl rfl rfl rfl rfl rfl (by first | trivial | omega) ?_
      refine g1 5 false 189 199 16 rfl rfl rfl rfl rfl ?_
      refine d1 199 643 16 rfl rfl rfl rfl rfl rfl (by first | trivial | omega) ?_
      refine d1 200 651 17 rfl rfl rfl rfl rfl rfl trivial ?_
      refine d1 201 659 18 rfl rfl rfl rfl rfl rfl trivial ?_
      refine d1 202 667 19 rfl rfl rfl rfl rfl rfl trivial ?_
      refine d0 675 20 rfl rfl rfl rfl rfl (by first | trivial | omega) ?_
      refine de1 683 rfl (by kernel_rfl) ?_
      have hq := hp.symm.trans (step_alu hc0 (by omega) (by first | exact alu_6 (by omega) | exact alu_7 (by omega)) (by rw [hg23_189]))
      exact out0 (π := [0, 1, 2, 3]) (hout := [some (thrYB 3 C p.1), none, some (intsB p.2), some (intsB p.1.told)]) Tryd.results45 rfl rfl ⟨(by rw [hq]; rfl), (by rw [hq]; rfl), (by rw [hq]; rfl), trivial⟩ ⟨rfl, rfl⟩
    try simp only [cs, ne_eq] at hc16
    exfalso; first | omega | contradiction | (simp_all; done)
  try simp only [cs, ne_eq] at hc16
  refine r0 ?_
  refine s1 120 347 1 rfl rfl rfl rfl rfl rfl (by first | trivial | omega) ?_
  refine s1 118 355 2 rfl rfl rfl rfl rfl rfl trivial ?_
  refine e1 363 rfl ?_
  refine tn ?_
  refine q1 rfl (fun hc17 => ?_) (fun hc17 => ?_)
  · skip
    try simp only [cs, ne_eq] at hc17
    obtain ⟨hk, ha, ha10, hb, hb11, hcc, hd⟩ := fit
    have ha := ha (by omega) (by omega)
    have hb := hb (by omega)
    have hcc := hcc (by omega)
    refine rd0 rfl ?_
    refine d1 121 363 1 rfl rfl rfl rfl rfl rfl trivial ?_
    refine d1 122 371 2 rfl rfl rfl rfl rfl rfl trivial ?_
    refine d1 123 379 3 rfl rfl rfl rfl rfl rfl (by first | trivial | omega) ?_
    refine d1 124 387 4 rfl rfl rfl rfl rfl rfl trivial ?_
    refine d1 125 395 5 rfl rfl rfl rfl rfl rfl trivial ?_
    refine d1 126 403 6 rfl rfl rfl rfl rfl rfl (by first | trivial | omega) ?_
    refine d1 127 411 7 rfl rfl rfl rfl rfl rfl trivial ?_
    refine d1 128 419 8 rfl rfl rfl rfl rfl rfl (by first | trivial | omega) ?_
    refine dLd (thrX_get (insV C) _ (t.pc + 1) (.sl 3 0 t.told.length) t.e t.ov (by omega)) 129 427 9 rfl rfl rfl rfl rfl rfl rfl rfl rfl ?_
    refine d1 130 435 10 rfl rfl rfl rfl rfl rfl trivial ?_
    refine d1 131 443 11 rfl rfl rfl rfl rfl rfl trivial ?_
    refine d1 132 451 12 rfl rfl rfl rfl rfl rfl (by first | trivial | omega) ?_
    refine d1 133 459 13 rfl rfl rfl rfl rfl rfl trivial ?_
    refine d1 134 467 14 rfl rfl rfl rfl rfl rfl (by first | trivial | omega) ?_
    refine dLd (thrX_get (insV C) _ (t.pc + 1) (.sl 3 0 t.told.length) t.e t.ov (by omega)) 135 475 15 rfl rfl rfl rfl rfl rfl rfl rfl rfl ?_
    refine d1 136 483 16 rfl rfl rfl rfl rfl rfl trivial ?_
    refine d1 137 491 17 rfl rfl rfl rfl rfl rfl (by first | trivial | omega) ?_
    refine d1 138 499 18 rfl rfl rfl rfl rfl rfl (by first | trivial | omega) ?_
    refine dc1 (quo_any _ _ ((C.getD t.pc.toNat default).k == 7)) [] [] 139 507 19 rfl rfl rfl rfl rfl rfl rfl rfl Tryd.func63 rfl rfl rfl rfl trivial rfl rfl ?_
    refine d1 140 515 20 rfl rfl rfl rfl rfl rfl trivial ?_
    refine d1 141 523 21 rfl rfl rfl rfl rfl rfl (by first | trivial | omega) ?_
    refine dSt (thrX_set (insV C) t.r (t.pc + 1) (.sl 3 0 t.told.length) t.e t.ov _ (by omega)) (thrX_len _ _ _ _ _ _ (by omega)) 531 22 rfl rfl rfl rfl rfl rfl rfl rfl (by rfl) rfl rfl ?_
    refine de1 539 rfl (by kernel_rfl) ?_
    refine bn ?_
    refine tn ?_
    refine rd0 rfl ?_
    refine d1 184 539 1 rfl rfl rfl rfl rfl rfl trivial ?_
    refine d1 185 547 2 rfl rfl rfl rfl rfl rfl trivial ?_
    refine d1 186 555 3 rfl rfl rfl rfl rfl rfl trivial ?_
    refine d1 187 563 4 rfl rfl rfl rfl rfl rfl trivial ?_
    refine d1 188 571 5 rfl rfl rfl rfl rfl rfl (by first | trivial | omega) ?_
    refine d1 189 579 6 rfl rfl rfl rfl rfl rfl trivial ?_
    refine ask 189 rfl (fun hg23_189 => ?_) (fun hg23_189 => ?_)
    · skip
      try simp only [cs, ne_eq] at hg23_189
      refine g0 5 false 189 190 7 rfl rfl rfl rfl rfl rfl ?_
      refine g0 5 false 189 191 8 rfl rfl rfl rfl rfl rfl ?_
      refine g0 5 false 189 192 9 rfl rfl rfl rfl rfl rfl ?_
      refine g0 5 false 189 193 10 rfl rfl rfl rfl rfl rfl ?_
      refine g0 5 false 189 194 11 rfl rfl rfl rfl rfl rfl ?_
      refine g0 5 false 189 195 12 rfl rfl rfl rfl rfl rfl ?_
      refine g0 5 false 189 196 13 rfl rfl rfl rfl rfl rfl ?_
      refine g0 5 false 189 197 14 rfl rfl rfl rfl rfl rfl ?_
      refine g0 5 false 189 198 15 rfl rfl rfl rfl rfl rfl ?_
      refine g0 5 false 189 199 16 rfl rfl rfl rfl rfl rfl ?_
      refine d1 200 667 17 rfl rfl rfl rfl rfl rfl trivial ?_
      refine d1 201 675 18 rfl rfl rfl rfl rfl rfl trivial ?_
      refine d1 202 683 19 rfl rfl rfl rfl rfl rfl trivial ?_
      refine d0 691 20 rfl rfl rfl rfl rfl (by first | trivial | omega) ?_
      refine de1 699 rfl (by kernel_rfl) ?_
      have hq := hp.symm.trans (step_alu hc0 (by omega) (by first | exact alu_6 (by omega) | exact alu_7 (by omega)) (by rw [hg23_189]))
      exact out0 (π := [0, 1, 2, 3]) (hout := [some (thrYB 3 C p.1), none, some (intsB p.2), some (intsB p.1.told)]) Tryd.results45 rfl rfl ⟨(by rw [hq]; rfl), (by rw [hq]; rfl), (by rw [hq]; rfl), trivial⟩ ⟨rfl, rfl⟩
    try simp only [cs, ne_eq] at hg23_189
    refine g1 5 false 189 190 7 rfl rfl rfl rfl rfl ?_
    refine d1 190 587 7 rfl rfl rfl rfl rfl rfl trivial ?_
    refine g1 5 false 189 191 8 rfl rfl rfl rfl rfl ?_
    refine d1 191 595 8 rfl rfl rfl rfl rfl rfl trivial ?_
    refine g1 5 false 189 192 9 rfl rfl rfl rfl rfl ?_
    refine d1 192 603 9 rfl rfl rfl rfl rfl rfl trivial ?_
    refine g1 5 false 189 193 10 rfl rfl rfl rfl rfl ?_
    refine d1 193 611 10 rfl rfl rfl rfl rfl rfl (by first | trivial | omega) ?_
    refine g1 5 false 189 194 11 rfl rfl rfl rfl rfl ?_
    refine d1 194 619 11 rfl rfl rfl rfl rfl rfl trivial ?_
    refine g1 5 false 189 195 12 rfl rfl rfl rfl rfl ?_
    refine d1 195 627 12 rfl rfl rfl rfl rfl rfl trivial ?_
    refine g1 5 false 189 196 13 rfl rfl rfl rfl rfl ?_
    refine d1 196 635 13 rfl rfl rfl rfl rfl rfl trivial ?_
    refine g1 5 false 189 197 14 rfl rfl rfl rfl rfl ?_
    refine d1 197 643 14 rfl rfl rfl rfl rfl rfl (by first | trivial | omega) ?_
    refine g1 5 false 189 198 15 rfl rfl rfl rfl rfl ?_
    refine d1 198 651 15 rfl rfl rfl rfl rfl rfl (by first | trivial | omega) ?_
    refine g1 5 false 189 199 16 rfl rfl rfl rfl rfl ?_
    refine d1 199 659 16 rfl rfl rfl rfl rfl rfl (by first | trivial | omega) ?_
    refine d1 200 667 17 rfl rfl rfl rfl rfl rfl trivial ?_
    refine d1 201 675 18 rfl rfl rfl rfl rfl rfl trivial ?_
    refine d1 202 683 19 rfl rfl rfl rfl rfl rfl trivial ?_
    refine d0 691 20 rfl rfl rfl rfl rfl (by first | trivial | omega) ?_
    refine de1 699 rfl (by kernel_rfl) ?_
    have hq := hp.symm.trans (step_alu hc0 (by omega) (by first | exact alu_6 (by omega) | exact alu_7 (by omega)) (by rw [hg23_189]))
    exact out0 (π := [0, 1, 2, 3]) (hout := [some (thrYB 3 C p.1), none, some (intsB p.2), some (intsB p.1.told)]) Tryd.results45 rfl rfl ⟨(by rw [hq]; rfl), (by rw [hq]; rfl), (by rw [hq]; rfl), trivial⟩ ⟨rfl, rfl⟩
  try simp only [cs, ne_eq] at hc17
  refine r1 ?_
  refine s1 143 363 1 rfl rfl rfl rfl rfl rfl (by first | trivial | omega) ?_
  refine s1 142 371 2 rfl rfl rfl rfl rfl rfl trivial ?_
  refine e1 379 rfl ?_
  refine keep [0, 1, 4, 5, 31, 142] rfl ?_
  refine q1 rfl (fun hc19 => ?_) (fun hc19 => ?_)
  · skip
    try simp only [cs, ne_eq] at hc19
    obtain ⟨hk, ha, ha10, hb, hb11, hcc, hd⟩ := fit
    have ha := ha (by omega) (by omega)
    have hb := hb (by omega)
    have hcc := hcc (by omega)
    refine rd0 rfl ?_
    refine d1 144 379 1 rfl rfl rfl rfl rfl rfl trivial ?_
    refine d1 145 387 2 rfl rfl rfl rfl rfl rfl trivial ?_
    refine d1 146 395 3 rfl rfl rfl rfl rfl rfl (by first | trivial | omega) ?_
    refine d1 147 403 4 rfl rfl rfl rfl rfl rfl trivial ?_
    refine d1 148 411 5 rfl rfl rfl rfl rfl rfl trivial ?_
    refine d1 149 419 6 rfl rfl rfl rfl rfl rfl (by first | trivial | omega) ?_
    refine d1 150 427 7 rfl rfl rfl rfl rfl rfl trivial ?_
    refine d1 151 435 8 rfl rfl rfl rfl rfl rfl (by first | trivial | omega) ?_
    refine dLd (thrX_get (insV C) _ (t.pc + 1) (.sl 3 0 t.told.length) t.e t.ov (by omega)) 152 443 9 rfl rfl rfl rfl rfl rfl rfl rfl rfl ?_
    refine d1 153 451 10 rfl rfl rfl rfl rfl rfl trivial ?_
    refine d1 154 459 11 rfl rfl rfl rfl rfl rfl trivial ?_
    refine d1 155 467 12 rfl rfl rfl rfl rfl rfl (by first | trivial | omega) ?_
    refine d1 156 475 13 rfl rfl rfl rfl rfl rfl trivial ?_
    refine d1 157 483 14 rfl rfl rfl rfl rfl rfl (by first | trivial | omega) ?_
    refine dLd (thrX_get (insV C) _ (t.pc + 1) (.sl 3 0 t.told.length) t.e t.ov (by omega)) 158 491 15 rfl rfl rfl rfl rfl rfl rfl rfl rfl ?_
    refine d1 159 499 16 rfl rfl rfl rfl rfl rfl (by first | trivial | omega) ?_
    refine dc1 (flag_any (decide (t.r (C.getD t.pc.toNat default).b.toNat = t.r (C.getD t.pc.toNat default).c.toNat))) [] [] 160 507 17 rfl rfl rfl rfl rfl rfl rfl rfl Tryd.func64 rfl rfl rfl rfl trivial rfl rfl ?_
    refine d1 161 515 18 rfl rfl rfl rfl rfl rfl trivial ?_
    refine d1 162 523 19 rfl rfl rfl rfl rfl rfl (by first | trivial | omega) ?_
    refine dSt (thrX_set (insV C) t.r (t.pc + 1) (.sl 3 0 t.told.length) t.e t.ov _ (by omega)) (thrX_len _ _ _ _ _ _ (by omega)) 531 20 rfl rfl rfl rfl rfl rfl rfl rfl (by rfl) rfl rfl ?_
    refine de1 539 rfl (by kernel_rfl) ?_
    refine bn ?_
    refine tn ?_
    refine rd0 rfl ?_
    refine d1 184 539 1 rfl rfl rfl rfl rfl rfl trivial ?_
    refine d1 185 547 2 rfl rfl rfl rfl rfl rfl trivial ?_
    refine d1 186 555 3 rfl rfl rfl rfl rfl rfl trivial ?_
    refine d1 187 563 4 rfl rfl rfl rfl rfl rfl trivial ?_
    refine d1 188 571 5 rfl rfl rfl rfl rfl rfl (by first | trivial | omega) ?_
    refine d1 189 579 6 rfl rfl rfl rfl rfl rfl trivial ?_
    refine ask 189 rfl (fun hg23_189 => ?_) (fun hg23_189 => ?_)
    · skip
      try simp only [cs, ne_eq] at hg23_189
      refine g0 5 false 189 190 7 rfl rfl rfl rfl rfl rfl ?_
      refine g0 5 false 189 191 8 rfl rfl rfl rfl rfl rfl ?_
      refine g0 5 false 189 192 9 rfl rfl rfl rfl rfl rfl ?_
      refine g0 5 false 189 193 10 rfl rfl rfl rfl rfl rfl ?_
      refine g0 5 false 189 194 11 rfl rfl rfl rfl rfl rfl ?_
      refine g0 5 false 189 195 12 rfl rfl rfl rfl rfl rfl ?_
      refine g0 5 false 189 196 13 rfl rfl rfl rfl rfl rfl ?_
      refine g0 5 false 189 197 14 rfl rfl rfl rfl rfl rfl ?_
      refine g0 5 false 189 198 15 rfl rfl rfl rfl rfl rfl ?_
      refine g0 5 false 189 199 16 rfl rfl rfl rfl rfl rfl ?_
      refine d1 200 667 17 rfl rfl rfl rfl rfl rfl trivial ?_
      refine d1 201 675 18 rfl rfl rfl rfl rfl rfl trivial ?_
      refine d1 202 683 19 rfl rfl rfl rfl rfl rfl trivial ?_
      refine d0 691 20 rfl rfl rfl rfl rfl (by first | trivial | omega) ?_
      refine de1 699 rfl (by kernel_rfl) ?_
      have hq := hp.symm.trans (step_alu hc0 (by omega) (alu_8 (by omega)) (by rw [hg23_189]))
      exact out0 (π := [0, 1, 2, 3]) (hout := [some (thrYB 3 C p.1), none, some (intsB p.2), some (intsB p.1.told)]) Tryd.results45 rfl rfl ⟨(by rw [hq]; rfl), (by rw [hq]; rfl), (by rw [hq]; rfl), trivial⟩ ⟨rfl, rfl⟩
    try simp only [cs, ne_eq] at hg23_189
    refine g1 5 false 189 190 7 rfl rfl rfl rfl rfl ?_
    refine d1 190 587 7 rfl rfl rfl rfl rfl rfl trivial ?_
    refine g1 5 false 189 191 8 rfl rfl rfl rfl rfl ?_
    refine d1 191 595 8 rfl rfl rfl rfl rfl rfl trivial ?_
    refine g1 5 false 189 192 9 rfl rfl rfl rfl rfl ?_
    refine d1 192 603 9 rfl rfl rfl rfl rfl rfl trivial ?_
    refine g1 5 false 189 193 10 rfl rfl rfl rfl rfl ?_
    refine d1 193 611 10 rfl rfl rfl rfl rfl rfl (by first | trivial | omega) ?_
    refine g1 5 false 189 194 11 rfl rfl rfl rfl rfl ?_
    refine d1 194 619 11 rfl rfl rfl rfl rfl rfl trivial ?_
    refine g1 5 false 189 195 12 rfl rfl rfl rfl rfl ?_
    refine d1 195 627 12 rfl rfl rfl rfl rfl rfl trivial ?_
    refine g1 5 false 189 196 13 rfl rfl rfl rfl rfl ?_
    refine d1 196 635 13 rfl rfl rfl rfl rfl rfl trivial ?_
    refine g1 5 false 189 197 14 rfl rfl rfl rfl rfl ?_
    refine d1 197 643 14 rfl rfl rfl rfl rfl rfl (by first | trivial | omega) ?_
    refine g1 5 false 189 198 15 rfl rfl rfl rfl rfl ?_
    refine d1 198 651 15 rfl rfl rfl rfl rfl rfl (by first | trivial | omega) ?_
    refine g1 5 false 189 199 16 rfl rfl rfl rfl rfl ?_
    refine d1 199 659 16 rfl rfl rfl rfl rfl rfl (by first | trivial | omega) ?_
    refine d1 200 667 17 rfl rfl rfl rfl rfl rfl trivial ?_
    refine d1 201 675 18 rfl rfl rfl rfl rfl rfl trivial ?_
    refine d1 202 683 19 rfl rfl rfl rfl rfl rfl trivial ?_
    refine d0 691 20 rfl rfl rfl rfl rfl (by first | trivial | omega) ?_
    refine de1 699 rfl (by kernel_rfl) ?_
    have hq := hp.symm.trans (step_alu hc0 (by omega) (alu_8 (by omega)) (by rw [hg23_189]))
    exact out0 (π := [0, 1, 2, 3]) (hout := [some (thrYB 3 C p.1), none, some (intsB p.2), some (intsB p.1.told)]) Tryd.results45 rfl rfl ⟨(by rw [hq]; rfl), (by rw [hq]; rfl), (by rw [hq]; rfl), trivial⟩ ⟨rfl, rfl⟩
  try simp only [cs, ne_eq] at hc19
  refine r1 ?_
  refine s1 164 379 1 rfl rfl rfl rfl rfl rfl (by first | trivial | omega) ?_
  refine s1 163 387 2 rfl rfl rfl rfl rfl rfl trivial ?_
  refine e1 395 rfl ?_
  refine keep [0, 1, 4, 5, 163] rfl ?_
  refine q1 rfl (fun hc21 => ?_) (fun hc21 => ?_)
  · skip
    try simp only [cs, ne_eq] at hc21
    obtain ⟨hk, ha, ha10, hb, hb11, hcc, hd⟩ := fit
    have ha := ha (by omega) (by omega)
    have hb := hb (by omega)
    have hcc := hcc (by omega)
    refine rd0 rfl ?_
    refine d1 165 395 1 rfl rfl rfl rfl rfl rfl trivial ?_
    refine d1 166 403 2 rfl rfl rfl rfl rfl rfl trivial ?_
    refine d1 167 411 3 rfl rfl rfl rfl rfl rfl (by first | trivial | omega) ?_
    refine d1 168 419 4 rfl rfl rfl rfl rfl rfl trivial ?_
    refine d1 169 427 5 rfl rfl rfl rfl rfl rfl trivial ?_
    refine d1 170 435 6 rfl rfl rfl rfl rfl rfl (by first | trivial | omega) ?_
    refine d1 171 443 7 rfl rfl rfl rfl rfl rfl trivial ?_
    refine d1 172 451 8 rfl rfl rfl rfl rfl rfl (by first | trivial | omega) ?_
    refine dLd (thrX_get (insV C) _ (t.pc + 1) (.sl 3 0 t.told.length) t.e t.ov (by omega)) 173 459 9 rfl rfl rfl rfl rfl rfl rfl rfl rfl ?_
    refine d1 174 467 10 rfl rfl rfl rfl rfl rfl trivial ?_
    refine d1 175 475 11 rfl rfl rfl rfl rfl rfl trivial ?_
    refine d1 176 483 12 rfl rfl rfl rfl rfl rfl (by first | trivial | omega) ?_
    refine d1 177 491 13 rfl rfl rfl rfl rfl rfl trivial ?_
    refine d1 178 499 14 rfl rfl rfl rfl rfl rfl (by first | trivial | omega) ?_
    refine dLd (thrX_get (insV C) _ (t.pc + 1) (.sl 3 0 t.told.length) t.e t.ov (by omega)) 179 507 15 rfl rfl rfl rfl rfl rfl rfl rfl rfl ?_
    refine d1 180 515 16 rfl rfl rfl rfl rfl rfl (by first | trivial | omega) ?_
    refine dc1 (flag_any (decide (t.r (C.getD t.pc.toNat default).b.toNat < t.r (C.getD t.pc.toNat default).c.toNat))) [] [] 181 523 17 rfl rfl rfl rfl rfl rfl rfl rfl Tryd.func64 rfl rfl rfl rfl trivial rfl rfl ?_
    refine d1 182 531 18 rfl rfl rfl rfl rfl rfl trivial ?_
    refine d1 183 539 19 rfl rfl rfl rfl rfl rfl (by first | trivial | omega) ?_
    refine dSt (thrX_set (insV C) t.r (t.pc + 1) (.sl 3 0 t.told.length) t.e t.ov _ (by omega)) (thrX_len _ _ _ _ _ _ (by omega)) 547 20 rfl rfl rfl rfl rfl rfl rfl rfl (by rfl) rfl rfl ?_
    refine de1 555 rfl (by kernel_rfl) ?_
    refine bn ?_
    refine tn ?_
    refine rd0 rfl ?_
    refine d1 184 555 1 rfl rfl rfl rfl rfl rfl trivial ?_
    refine d1 185 563 2 rfl rfl rfl rfl rfl rfl trivial ?_
    refine d1 186 571 3 rfl rfl rfl rfl rfl rfl trivial ?_
    refine d1 187 579 4 rfl rfl rfl rfl rfl rfl trivial ?_
    refine d1 188 587 5 rfl rfl rfl rfl rfl rfl (by first | trivial | omega) ?_
    refine d1 189 595 6 rfl rfl rfl rfl rfl rfl trivial ?_
    refine ask 189 rfl (fun hg23_189 => ?_) (fun hg23_189 => ?_)
    · skip
      try simp only [cs, ne_eq] at hg23_189
      refine g0 5 false 189 190 7 rfl rfl rfl rfl rfl rfl ?_
      refine g0 5 false 189 191 8 rfl rfl rfl rfl rfl rfl ?_
      refine g0 5 false 189 192 9 rfl rfl rfl rfl rfl rfl ?_
      refine g0 5 false 189 193 10 rfl rfl rfl rfl rfl rfl ?_
      refine g0 5 false 189 194 11 rfl rfl rfl rfl rfl rfl ?_
      refine g0 5 false 189 195 12 rfl rfl rfl rfl rfl rfl ?_
      refine g0 5 false 189 196 13 rfl rfl rfl rfl rfl rfl ?_
      refine g0 5 false 189 197 14 rfl rfl rfl rfl rfl rfl ?_
      refine g0 5 false 189 198 15 rfl rfl rfl rfl rfl rfl ?_
      refine g0 5 false 189 199 16 rfl rfl rfl rfl rfl rfl ?_
      refine d1 200 683 17 rfl rfl rfl rfl rfl rfl trivial ?_
      refine d1 201 691 18 rfl rfl rfl rfl rfl rfl trivial ?_
      refine d1 202 699 19 rfl rfl rfl rfl rfl rfl trivial ?_
      refine d0 707 20 rfl rfl rfl rfl rfl (by first | trivial | omega) ?_
      refine de1 715 rfl (by kernel_rfl) ?_
      have hq := hp.symm.trans (step_alu hc0 (by omega) (alu_9 (by omega)) (by rw [hg23_189]))
      exact out0 (π := [0, 1, 2, 3]) (hout := [some (thrYB 3 C p.1), none, some (intsB p.2), some (intsB p.1.told)]) Tryd.results45 rfl rfl ⟨(by rw [hq]; rfl), (by rw [hq]; rfl), (by rw [hq]; rfl), trivial⟩ ⟨rfl, rfl⟩
    try simp only [cs, ne_eq] at hg23_189
    refine g1 5 false 189 190 7 rfl rfl rfl rfl rfl ?_
    refine d1 190 603 7 rfl rfl rfl rfl rfl rfl trivial ?_
    refine g1 5 false 189 191 8 rfl rfl rfl rfl rfl ?_
    refine d1 191 611 8 rfl rfl rfl rfl rfl rfl trivial ?_
    refine g1 5 false 189 192 9 rfl rfl rfl rfl rfl ?_
    refine d1 192 619 9 rfl rfl rfl rfl rfl rfl trivial ?_
    refine g1 5 false 189 193 10 rfl rfl rfl rfl rfl ?_
    refine d1 193 627 10 rfl rfl rfl rfl rfl rfl (by first | trivial | omega) ?_
    refine g1 5 false 189 194 11 rfl rfl rfl rfl rfl ?_
    refine d1 194 635 11 rfl rfl rfl rfl rfl rfl trivial ?_
    refine g1 5 false 189 195 12 rfl rfl rfl rfl rfl ?_
    refine d1 195 643 12 rfl rfl rfl rfl rfl rfl trivial ?_
    refine g1 5 false 189 196 13 rfl rfl rfl rfl rfl ?_
    refine d1 196 651 13 rfl rfl rfl rfl rfl rfl trivial ?_
    refine g1 5 false 189 197 14 rfl rfl rfl rfl rfl ?_
    refine d1 197 659 14 rfl rfl rfl rfl rfl rfl (by first | trivial | omega) ?_
    refine g1 5 false 189 198 15 rfl rfl rfl rfl rfl ?_
    refine d1 198 667 15 rfl rfl rfl rfl rfl rfl (by first | trivial | omega) ?_
    refine g1 5 false 189 199 16 rfl rfl rfl rfl rfl ?_
    refine d1 199 675 16 rfl rfl rfl rfl rfl rfl (by first | trivial | omega) ?_
    refine d1 200 683 17 rfl rfl rfl rfl rfl rfl trivial ?_
    refine d1 201 691 18 rfl rfl rfl rfl rfl rfl trivial ?_
    refine d1 202 699 19 rfl rfl rfl rfl rfl rfl trivial ?_
    refine d0 707 20 rfl rfl rfl rfl rfl (by first | trivial | omega) ?_
    refine de1 715 rfl (by kernel_rfl) ?_
    have hq := hp.symm.trans (step_alu hc0 (by omega) (alu_9 (by omega)) (by rw [hg23_189]))
    exact out0 (π := [0, 1, 2, 3]) (hout := [some (thrYB 3 C p.1), none, some (intsB p.2), some (intsB p.1.told)]) Tryd.results45 rfl rfl ⟨(by rw [hq]; rfl), (by rw [hq]; rfl), (by rw [hq]; rfl), trivial⟩ ⟨rfl, rfl⟩
  try simp only [cs, ne_eq] at hc21
  have hk9 : ¬ (C.getD t.pc.toNat default).k ≤ 9 := (by have := fit.k; omega)
  refine r0 ?_
  refine s1 32 395 1 rfl rfl rfl rfl rfl rfl trivial ?_
  refine s1 33 403 2 rfl rfl rfl rfl rfl rfl (by first | trivial | omega) ?_
  refine s1 34 411 3 rfl rfl rfl rfl rfl rfl trivial ?_
  refine c1 (other_any C ⟨t.r, t.pc + 1, t.told, t.e, t.ov⟩ ws (C.getD t.pc.toNat default) fit hk9 hws htl _ rfl) [0, 3, 2] [0, 3, 2, 419] 35 419 4 rfl rfl rfl rfl rfl rfl rfl rfl Tryd.func65 rfl rfl rfl rfl ⟨rfl, rfl, rfl, trivial⟩ rfl rfl ?_
  refine e1 427 rfl ?_
  refine bn ?_
  refine tn ?_
  refine rd0 rfl ?_
  refine d1 184 427 1 rfl rfl rfl rfl rfl rfl trivial ?_
  refine d1 185 435 2 rfl rfl rfl rfl rfl rfl trivial ?_
  refine d1 186 443 3 rfl rfl rfl rfl rfl rfl trivial ?_
  refine d1 187 451 4 rfl rfl rfl rfl rfl rfl trivial ?_
  refine d1 188 459 5 rfl rfl rfl rfl rfl rfl (by first | trivial | omega) ?_
  refine d1 189 467 6 rfl rfl rfl rfl rfl rfl trivial ?_
  refine ask 189 rfl (fun hg23_189 => ?_) (fun hg23_189 => ?_)
  · skip
    try simp only [cs, ne_eq] at hg23_189
    refine g0 5 false 189 190 7 rfl rfl rfl rfl rfl rfl ?_
    refine g0 5 false 189 191 8 rfl rfl rfl rfl rfl rfl ?_
    refine g0 5 false 189 192 9 rfl rfl rfl rfl rfl rfl ?_
    refine g0 5 false 189 193 10 rfl rfl rfl rfl rfl rfl ?_
    refine g0 5 false 189 194 11 rfl rfl rfl rfl rfl rfl ?_
    refine g0 5 false 189 195 12 rfl rfl rfl rfl rfl rfl ?_
    refine g0 5 false 189 196 13 rfl rfl rfl rfl rfl rfl ?_
    refine g0 5 false 189 197 14 rfl rfl rfl rfl rfl rfl ?_
    refine g0 5 false 189 198 15 rfl rfl rfl rfl rfl rfl ?_
    refine g0 5 false 189 199 16 rfl rfl rfl rfl rfl rfl ?_
    refine d1 200 555 17 rfl rfl rfl rfl rfl rfl trivial ?_
    refine d1 201 563 18 rfl rfl rfl rfl rfl rfl trivial ?_
    refine d1 202 571 19 rfl rfl rfl rfl rfl rfl trivial ?_
    refine d0 579 20 rfl rfl rfl rfl rfl (by first | trivial | omega) ?_
    refine de1 587 rfl (by kernel_rfl) ?_
    have hq := hp.symm.trans (step_oth hc0 hk9 rfl (by rw [hg23_189]))
    exact out0 (π := [0, 1, 2, 419]) (hout := [some (thrYB 3 C p.1), none, some (intsB p.2), some (intsB p.1.told)]) Tryd.results45 rfl rfl ⟨(by rw [hq]; rfl), (by rw [hq]; rfl), (by rw [hq]; rfl), trivial⟩ ⟨rfl, rfl⟩
  try simp only [cs, ne_eq] at hg23_189
  refine g1 5 false 189 190 7 rfl rfl rfl rfl rfl ?_
  refine d1 190 475 7 rfl rfl rfl rfl rfl rfl trivial ?_
  refine g1 5 false 189 191 8 rfl rfl rfl rfl rfl ?_
  refine d1 191 483 8 rfl rfl rfl rfl rfl rfl trivial ?_
  refine g1 5 false 189 192 9 rfl rfl rfl rfl rfl ?_
  refine d1 192 491 9 rfl rfl rfl rfl rfl rfl trivial ?_
  refine g1 5 false 189 193 10 rfl rfl rfl rfl rfl ?_
  refine d1 193 499 10 rfl rfl rfl rfl rfl rfl (by first | trivial | omega) ?_
  refine g1 5 false 189 194 11 rfl rfl rfl rfl rfl ?_
  refine d1 194 507 11 rfl rfl rfl rfl rfl rfl trivial ?_
  refine g1 5 false 189 195 12 rfl rfl rfl rfl rfl ?_
  refine d1 195 515 12 rfl rfl rfl rfl rfl rfl trivial ?_
  refine g1 5 false 189 196 13 rfl rfl rfl rfl rfl ?_
  refine d1 196 523 13 rfl rfl rfl rfl rfl rfl trivial ?_
  refine g1 5 false 189 197 14 rfl rfl rfl rfl rfl ?_
  refine d1 197 531 14 rfl rfl rfl rfl rfl rfl (by first | trivial | omega) ?_
  refine g1 5 false 189 198 15 rfl rfl rfl rfl rfl ?_
  refine d1 198 539 15 rfl rfl rfl rfl rfl rfl (by first | trivial | omega) ?_
  refine g1 5 false 189 199 16 rfl rfl rfl rfl rfl ?_
  refine d1 199 547 16 rfl rfl rfl rfl rfl rfl (by first | trivial | omega) ?_
  refine d1 200 555 17 rfl rfl rfl rfl rfl rfl trivial ?_
  refine d1 201 563 18 rfl rfl rfl rfl rfl rfl trivial ?_
  refine d1 202 571 19 rfl rfl rfl rfl rfl rfl trivial ?_
  refine d0 579 20 rfl rfl rfl rfl rfl (by first | trivial | omega) ?_
  refine de1 587 rfl (by kernel_rfl) ?_
  have hq := hp.symm.trans (step_oth hc0 hk9 rfl (by rw [hg23_189]))
  exact out0 (π := [0, 1, 2, 419]) (hout := [some (thrYB 3 C p.1), none, some (intsB p.2), some (intsB p.1.told)]) Tryd.results45 rfl rfl ⟨(by rw [hq]; rfl), (by rw [hq]; rfl), (by rw [hq]; rfl), trivial⟩ ⟨rfl, rfl⟩

end Go.Proofs.YtnnjobmiepnedaaDoor.Nice

/- Runs of codes, as plain functions. -/
namespace Go.Proofs.YtnnjobmiepnedaaDoor.Nice
open Go
set_option linter.unusedVariables false
set_option linter.unusedSimpArgs false
set_option maxRecDepth 100000
set_option maxHeartbeats 4000000
theorem thrX_copy (c : SV) (pc : Int) (tl : SV) (e : Int) (ov : Bool) (l : List Int) (hl : l.length ≤ 8) : (thrX c (fun _ => 0) pc tl e ov).take 1 ++ copyL (intsF l) (Nat.min l.length 24) ++ (thrX c (fun _ => 0) pc tl e ov).drop (1 + Nat.min l.length 24) = thrX c (fun j => l.getD j 0) pc tl e ov := by
  match l, hl with
  | [], _ => rfl
  | [_], _ => rfl
  | [_, _], _ => rfl
  | [_, _, _], _ => rfl
  | [_, _, _, _], _ => rfl
  | [_, _, _, _, _], _ => rfl
  | [_, _, _, _, _, _], _ => rfl
  | [_, _, _, _, _, _, _], _ => rfl
  | [_, _, _, _, _, _, _, _], _ => rfl
  | _ :: _ :: _ :: _ :: _ :: _ :: _ :: _ :: _ :: l, h => simp at h
def vnew (C : List Ins) (l : List Int) : Thr := ⟨fun j => l.getD j 0, 0, [], 0, (C.length : Int) == 0⟩
def vrun (C : List Ins) : Nat → Thr × List Int → Nat × (Thr × List Int)
  | 0, s => (0, s)
  | f + 1, s => if s.1.ov = true then (0, s) else ((vrun C f (vstep C s.2 s.1)).1 + 1, (vrun C f (vstep C s.2 s.1)).2)
/-- The thread goes on in its code, or it is over. -/
structure ThrOk (C : List Ins) (m : Nat) (s : Thr × List Int) : Prop where
  pc : s.1.ov = false → 0 ≤ s.1.pc ∧ s.1.pc < C.length
  told : s.1.told.length ≤ 200
  ws : s.2.length = m
structure VRes where
  told : List Int
  after : List Int
  n : Int
  e : Int
def vresOf (p : Nat × (Thr × List Int)) : VRes := ⟨p.2.1.told, p.2.2, p.1, if p.2.1.ov = true then p.2.1.e else 11⟩
def vran (C : List Ins) (l ws : List Int) (limit : Int) : VRes :=
  if mayB C = false then ⟨[], [], 0, 4⟩
  else if 8 < l.length ∨ 200 < ws.length then ⟨[], [], 0, 1⟩
  else if limit < 0 ∨ 6000 < limit then ⟨[], [], 0, 2⟩
  else vresOf (vrun C limit.toNat (vnew C l, ws))
theorem vnew_ok {C : List Ins} {l ws : List Int} : ThrOk C ws.length (vnew C l, ws) := by
  refine ⟨fun h => ?_, by simp [vnew], rfl⟩
  have : ((C.length : Int) == 0) = false := h
  simp at this
  have hc : 0 < C.length := by cases C <;> simp_all
  show (0 : Int) ≤ 0 ∧ (0 : Int) < _
  omega
theorem vword_told (o : Ins) (n : Nat) (ws : List Int) (t : Thr) : (vword o n ws t).1.told = t.told ∧ (vword o n ws t).1.pc = t.pc ∧ (vword o n ws t).1.ov = t.ov ∧ (vword o n ws t).2.length = ws.length := by
  unfold vword
  repeat' split
  all_goals simp
theorem vother_ok {C : List Ins} {o : Ins} {ws : List Int} {t : Thr} (fit : Fit C.length o) (hk : ¬ o.k ≤ 9) (hp : 0 ≤ t.pc ∧ t.pc ≤ C.length) (ht : t.told.length ≤ 200) : (0 ≤ (vother o ws t).1.pc ∧ (vother o ws t).1.pc ≤ C.length) ∧ (vother o ws t).1.told.length ≤ 200 ∧ (vother o ws t).2.length = ws.length := by
  obtain ⟨_, _, ha10, _, hb11, _, _⟩ := fit
  have hw := vword_told o (wrp (t.r o.b.toNat + o.c)).toNat ws t
  unfold vother
  repeat' split
  all_goals first
    | exact ⟨ha10 (by assumption), ht, rfl⟩
    | exact ⟨hb11 (by omega), ht, rfl⟩
    | (refine ⟨hp, ?_, rfl⟩; show (_ ++ [_]).length ≤ 200; rw [List.length_append]; simp only [List.length_singleton]; omega)
    | exact ⟨hp, ht, rfl⟩
    | (rw [hw.1, hw.2.1, hw.2.2.2]; exact ⟨hp, ht, rfl⟩)
theorem vstep_ok {C : List Ins} (hC : mayB C = true) {m : Nat} {s : Thr × List Int} (h : ThrOk C m s) : ThrOk C m (vstep C s.2 s.1) := by
  unfold vstep
  split
  · exact h
  · next hov =>
    have hov : s.1.ov = false := by cases e : s.1.ov <;> simp_all
    have hp := h.pc hov
    have fit := fit_at hC (n := s.1.pc.toNat) (by omega)
    have key : ∀ q : Thr × List Int, (0 ≤ q.1.pc ∧ q.1.pc ≤ C.length) ∧ q.1.told.length ≤ 200 ∧ q.2.length = m → ThrOk C m (vend C.length q) := by
      rintro q ⟨h1, h2, h3⟩
      refine ⟨fun he => ?_, h2, h3⟩
      have : (q.1.ov || decide (q.1.pc = C.length)) = false := he
      simp only [Bool.or_eq_false_iff, decide_eq_false_iff_not] at this
      show 0 ≤ q.1.pc ∧ q.1.pc < _
      omega
    refine key _ ?_
    unfold vexec
    split
    · exact ⟨⟨by show 0 ≤ s.1.pc + 1; omega, by show s.1.pc + 1 ≤ _; omega⟩, h.told, h.ws⟩
    · next hk =>
      have := vother_ok (ws := s.2) (t := ⟨s.1.r, s.1.pc + 1, s.1.told, s.1.e, s.1.ov⟩) fit hk ⟨by show 0 ≤ s.1.pc + 1; omega, by show s.1.pc + 1 ≤ _; omega⟩ h.told
      rw [h.ws] at this; exact this
theorem vrun_over {C : List Ins} {f : Nat} {s : Thr × List Int} (h : s.1.ov = true ∨ f = 0) : vrun C f s = (0, s) := by
  cases f with
  | zero => rfl
  | succ f => unfold vrun; rw [if_pos (h.resolve_right (by omega))]
theorem vrun_go {C : List Ins} {f : Nat} {s : Thr × List Int} (h : s.1.ov = false) (hf : 0 < f) : vrun C f s = ((vrun C (f - 1) (vstep C s.2 s.1)).1 + 1, (vrun C (f - 1) (vstep C s.2 s.1)).2) := by
  cases f with
  | zero => omega
  | succ f => rw [vrun, if_neg (by rw [h]; decide)]; rfl

end Go.Proofs.YtnnjobmiepnedaaDoor.Nice

/- The program's runs of codes. -/
namespace Go.Proofs.YtnnjobmiepnedaaDoor.Nice
open Go
set_option linter.unusedVariables false
set_option linter.unusedSimpArgs false
set_option maxRecDepth 100000
set_option maxHeartbeats 4000000

theorem begin_any (C : List Ins) (l : List Int) (hl : l.length ≤ 8) : Spec Tryd.prog GV 44 [insV C, intsV l] [] (fun r ho => r = .ptr 0 0 0 ∧ ho = [some (.cells 88 29 (thrX (insV C) (fun j => l.getD j 0) 0 (.d .nils) 0 ((C.length : Int) == 0)))]) := by
  refine start 22 0 Tryd.func44 rfl rfl rfl rfl ?_
  refine r1 ?_
  refine s1 4 0 1 rfl rfl rfl rfl rfl rfl trivial ?_
  refine e1 8 rfl ?_
  refine keep [0, 1] rfl ?_
  refine r1 ?_
  refine s1 6 8 1 rfl rfl rfl rfl rfl rfl trivial ?_
  refine s1 7 16 2 rfl rfl rfl rfl rfl rfl trivial ?_
  refine s1 8 24 3 rfl rfl rfl rfl rfl rfl trivial ?_
  refine s1 5 32 4 rfl rfl rfl rfl rfl rfl trivial ?_
  refine e1 40 rfl ?_
  refine keep [0, 1, 5] rfl ?_
  refine r1 ?_
  refine s1 9 40 1 rfl rfl rfl rfl rfl rfl trivial ?_
  refine s1 10 48 2 rfl rfl rfl rfl rfl rfl trivial ?_
  refine s1 11 56 3 rfl rfl rfl rfl rfl rfl trivial ?_
  refine sArr 12 64 4 rfl rfl rfl rfl rfl rfl rfl rfl rfl ?_
  refine s1 13 72 5 rfl rfl rfl rfl rfl rfl trivial ?_
  refine sCopy (thrX_copy (insV C) 0 (.d .nils) 0 false l hl) 14 80 6 rfl rfl rfl rfl rfl rfl rfl rfl rfl (by rfl) rfl rfl ?_
  refine e1 88 rfl ?_
  refine keep [0, 5] rfl ?_
  refine r1 ?_
  refine s1 15 88 1 rfl rfl rfl rfl rfl rfl trivial ?_
  refine s1 16 96 2 rfl rfl rfl rfl rfl rfl trivial ?_
  refine s1 17 104 3 rfl rfl rfl rfl rfl rfl (by first | trivial | omega) ?_
  refine s1 18 112 4 rfl rfl rfl rfl rfl rfl (by first | trivial | omega) ?_
  refine s1 19 120 5 rfl rfl rfl rfl rfl rfl trivial ?_
  refine s1 20 128 6 rfl rfl rfl rfl rfl rfl trivial ?_
  refine s0 136 7 rfl rfl rfl rfl rfl (by first | trivial | omega) ?_
  refine e1 144 rfl ?_
  refine keep [5] rfl ?_
  refine r1 ?_
  refine s1 21 144 1 rfl rfl rfl rfl rfl rfl trivial ?_
  refine s1 4 152 2 rfl rfl rfl rfl rfl rfl trivial ?_
  refine e1 160 rfl ?_
  refine keep [4] rfl ?_
  refine W_ret ?_
  exact out1 4 (.ptr 0 0 0) (π := [24]) (hout := [some (.cells 88 29 (thrX (insV C) (fun j => l.getD j 0) 0 (.d .nils) 0 ((C.length : Int) == 0)))]) Tryd.results44 rfl rfl rfl rfl ⟨rfl, trivial⟩ ⟨rfl, rfl⟩

theorem clone_any (l : List Int) (hl : l.length ≤ 1048576) : Spec Tryd.prog GV 43 [intsV l] [] (fun r ho => r = .sl 0 0 l.length ∧ ho = [some (intsB l)]) := by
  refine start 8 0 Tryd.func43 rfl rfl rfl rfl ?_
  refine r1 ?_
  refine s1 2 0 1 rfl rfl rfl rfl rfl rfl trivial ?_
  refine e1 8 rfl ?_
  refine keep [0] rfl ?_
  refine W_seq ?_
  refine r1 ?_
  refine s1 3 8 1 rfl rfl rfl rfl rfl rfl trivial ?_
  refine sNilQ 4 16 2 rfl rfl rfl rfl rfl rfl rfl rfl (fun b hb => ?_)
  refine e1 24 rfl ?_
  refine keep [0, 4] rfl ?_
  refine q1 rfl (fun hc1 => ?_) (fun hc1 => ?_)
  · skip
    try simp only [cs, ne_eq] at hc1
    obtain rfl : l = [] := List.length_eq_zero_iff.1 (hb hc1)
    refine r1 ?_
    refine s1 2 24 1 rfl rfl rfl rfl rfl rfl trivial ?_
    refine e1 32 rfl ?_
    refine keep [2] rfl ?_
    refine ghostly 2 3 1 (intsF []) rfl ?_
    refine W_ret ?_
    refine tr ?_
    exact out1 2 (.sl 0 0 0) (π := [32]) (hout := [some (intsB [])]) Tryd.results43 rfl rfl rfl rfl ⟨rfl, trivial⟩ ⟨rfl, rfl⟩
  try simp only [cs, ne_eq] at hc1
  refine W_skip ?_
  refine tn ?_
  refine r1 ?_
  refine s1 5 24 1 rfl rfl rfl rfl rfl rfl trivial ?_
  refine s1 6 32 2 rfl rfl rfl rfl rfl rfl trivial ?_
  refine s1 7 40 3 rfl rfl rfl rfl rfl rfl ⟨trivial, (by show l.length * 8 ≤ 140737488355328; omega), (by simp only [maxLen]; omega)⟩ ?_
  refine s1 2 48 4 rfl rfl rfl rfl rfl rfl trivial ?_
  refine e1 56 rfl ?_
  refine keep [2] rfl ?_
  refine W_ret ?_
  exact out1 2 (.sl 0 0 l.length) (π := [40]) (hout := [some (intsB l)]) Tryd.results43 rfl rfl rfl rfl ⟨rfl, trivial⟩ ⟨rfl, rfl⟩

theorem vran_form {C : List Ins} {l ws : List Int} {n : Int} (h : mayB C = false) : vran C l ws n = ⟨[], [], 0, 4⟩ := by unfold vran; rw [if_pos h]
theorem vran_size {C : List Ins} {l ws : List Int} {n : Int} (h : mayB C = true) (h2 : 8 < l.length ∨ 200 < ws.length) : vran C l ws n = ⟨[], [], 0, 1⟩ := by unfold vran; rw [if_neg (by rw [h]; decide), if_pos h2]
theorem vran_range {C : List Ins} {l ws : List Int} {n : Int} (h : mayB C = true) (h2 : ¬ (8 < l.length ∨ 200 < ws.length)) (h3 : n < 0 ∨ 6000 < n) : vran C l ws n = ⟨[], [], 0, 2⟩ := by unfold vran; rw [if_neg (by rw [h]; decide), if_neg h2, if_pos h3]
theorem vran_run {C : List Ins} {l ws : List Int} {n : Int} (h : mayB C = true) (h2 : ¬ (8 < l.length ∨ 200 < ws.length)) (h3 : ¬ (n < 0 ∨ 6000 < n)) {q : VRes} (hq : vresOf (vrun C n.toNat (vnew C l, ws)) = q) : vran C l ws n = q := by unfold vran; rw [if_neg (by rw [h]; decide), if_neg h2, if_neg h3, hq]


end Go.Proofs.YtnnjobmiepnedaaDoor.Nice

/- Threads beside each other, as plain functions. -/
namespace Go.Proofs.YtnnjobmiepnedaaDoor.Nice
open Go
set_option linter.unusedVariables false
set_option linter.unusedSimpArgs false
set_option maxRecDepth 100000
set_option maxHeartbeats 4000000
structure Ev where
  st : Int
  th : Int
  call : Int
  fin : Bool
  code : Int
  told : List Int
  deriving Inhabited
def evC (e : Ev) : Nat → D
  | 0 => .val (.int .i64 e.st)
  | 1 => .val (.int .i64 e.th)
  | 2 => .val (.int .i64 e.call)
  | 3 => .val (.bool e.fin)
  | 4 => .val (.int .i64 e.code)
  | 5 => .vec 1 e.told.length (intsF e.told)
  | _ => .any
def evF (l : List Ev) : Nat → Nat → D := fun i c => evC (l.getD i default) c
def evV (l : List Ev) : SV := .d (.vec 6 l.length (evF l))
def evB (l : List Ev) : Blk := .rows 50 6 l.length (evF l)
structure TS where
  nx : Int
  cur : Option (List Ins × Thr)
structure PS where
  ws : List Int
  out : List Ev
  ts : List TS
def pgo (j step nx : Int) (C : List Ins) (t : Thr) (ws : List Int) (out : List Ev) : TS × List Int × List Ev :=
  if (vstep C ws t).1.ov = true then (⟨nx, none⟩, (vstep C ws t).2, out ++ [⟨step, j, nx - 1, true, (vstep C ws t).1.e, (vstep C ws t).1.told⟩])
  else (⟨nx, some (C, (vstep C ws t).1)⟩, (vstep C ws t).2, out)
def callAt (q : Mach) (j : Nat) (n : Int) : CallD := (q.ts.getD j []).getD n.toNat default
def codeOf (q : Mach) (j : Nat) (n : Int) : List Ins := q.cs.getD (callAt q j n).code.toNat []
def pbody (q : Mach) (j : Nat) (step : Int) (s : TS) (ws : List Int) (out : List Ev) : TS × List Int × List Ev :=
  match s.cur with
  | some (C, t) => pgo j step s.nx C t ws out
  | none => if s.nx < (q.ts.getD j []).length then pgo j step (s.nx + 1) (codeOf q j s.nx) (vnew (codeOf q j s.nx) (callAt q j s.nx).args) ws (out ++ [⟨step, j, s.nx, false, 0, []⟩]) else (s, ws, out)
def pstep (q : Mach) (j : Nat) (step : Int) (s : PS) : PS :=
  ⟨(pbody q j step (s.ts.getD j ⟨0, none⟩) s.ws s.out).2.1, (pbody q j step (s.ts.getD j ⟨0, none⟩) s.ws s.out).2.2, s.ts.set j (pbody q j step (s.ts.getD j ⟨0, none⟩) s.ws s.out).1⟩
def prun (q : Mach) : List Int → Nat → PS → PS
  | [], _, s => s
  | v :: r, k, s => prun q r (k + 1) (pstep q v.toNat k s)
def bad (q : Mach) (v : Int) : Bool := decide (v < 0) || decide ((q.ts.length : Int) ≤ v)
structure PRes where
  out : List Ev
  ws : List Int
  e : Int
def pinit (q : Mach) : PS := ⟨q.ws, [], q.ts.map fun _ => ⟨0, none⟩⟩
def played (q : Mach) (sc : List Int) : PRes :=
  if machB q = false then ⟨[], [], 4⟩ else if 6000 < sc.length then ⟨[], [], 1⟩ else if sc.any (bad q) = true then ⟨[], [], 2⟩ else ⟨(prun q sc 0 (pinit q)).out, (prun q sc 0 (pinit q)).ws, 0⟩
/-- A thread in a call. -/
structure Live (m : Nat) (C : List Ins) (t : Thr) (ws : List Int) : Prop where
  c : mayB C = true
  ok : ThrOk C m (t, ws)
theorem ev_cat (l : List Ev) (a b c : Int) (f : Bool) (e : Int) (told : List Int) (i k : Nat) (hi : i < l.length + 1) (hk : k < 6) : catR (evF l) l.length (litR 6 [.val (.int .i64 a), .val (.int .i64 b), .val (.int .i64 c), .val (.bool f), .val (.int .i64 e), .vec 1 told.length (intsF told)]) i k = evF (l ++ [⟨a, b, c, f, e, told⟩]) i k := by
  unfold catR evF litR
  by_cases h : i < l.length
  · rw [if_pos h]; simp [List.getD, List.getElem?_append_left h]
  · obtain rfl : i = l.length := by omega
    rw [if_neg (Nat.lt_irrefl _), Nat.sub_self, Nat.zero_mul, Nat.zero_add]
    have : (l ++ [(⟨a, b, c, f, e, told⟩ : Ev)]).getD l.length default = (⟨a, b, c, f, e, told⟩ : Ev) := by simp [List.getD]
    rw [this]
    match k, hk with
    | 0, _ | 1, _ | 2, _ | 3, _ | 4, _ | 5, _ => rfl
theorem ev_cat0 (l : List Ev) (a b c : Int) (i k : Nat) (hi : i < l.length + 1) (hk : k < 6) (M : Imm) (v : Value) (h : DR M (catR (evF l) l.length (litR 6 [.val (.int .i64 a), .val (.int .i64 b), .val (.int .i64 c), .val (.bool false), .val (.int .i64 0), .nils]) i k) v) : DR M (evF (l ++ [⟨a, b, c, false, 0, []⟩]) i k) v := by
  rw [← ev_cat l a b c false 0 [] i k hi hk]
  unfold catR at h ⊢
  split at h
  · next e => rw [if_pos e]; exact h
  · next e =>
    rw [if_neg e]
    obtain rfl : i = l.length := by omega
    rw [Nat.sub_self] at h ⊢
    unfold litR at h ⊢
    rw [Nat.zero_mul, Nat.zero_add] at h ⊢
    match k, hk with
    | 0, _ | 1, _ | 2, _ | 3, _ | 4, _ => exact h
    | 5, _ =>
      have h : DR M .nils v := h
      cases h with | nils a => exact .vec0 _ _ _ _

end Go.Proofs.YtnnjobmiepnedaaDoor.Nice
