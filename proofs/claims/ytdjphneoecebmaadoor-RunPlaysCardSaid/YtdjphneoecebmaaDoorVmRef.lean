/- The document's worker, walked. -/
import Derived.Test.YtdjphneoecebmaaDoorVmRefP
namespace Go.Proofs.YtdjphneoecebmaaDoor.Nice
open Go
set_option linter.unusedVariables false
set_option linter.unusedSimpArgs false
set_option maxRecDepth 100000
set_option maxHeartbeats 4000000

theorem bit_any (b : Bool) : Spec Tryd.prog GV 31 [SV.b b] [] (fun r ho => r = SV.i (boolI b) ∧ ho = []) := by
  refine start 4 0 Tryd.func31 rfl rfl rfl rfl ?_
  refine r1 ?_
  refine s1 2 0 1 rfl rfl rfl rfl rfl rfl trivial ?_
  refine e1 8 rfl ?_
  refine keep [0] rfl ?_
  refine W_seq ?_
  refine r1 ?_
  refine s1 3 8 1 rfl rfl rfl rfl rfl rfl trivial ?_
  refine e1 16 rfl ?_
  refine keep [3] rfl ?_
  refine q1 rfl (fun hc1 => ?_) (fun hc1 => ?_)
  · skip
    try simp only [cs, ne_eq] at hc1
    refine r1 ?_
    refine s1 2 16 1 rfl rfl rfl rfl rfl rfl trivial ?_
    refine e1 24 rfl ?_
    refine keep [2] rfl ?_
    refine W_ret ?_
    refine tr ?_
    exact out1 2 (SV.i (boolI b)) (π := []) (hout := []) Tryd.results31 rfl (by unfold boolI; rw [if_pos hc1]; rfl) rfl rfl trivial ⟨rfl, rfl⟩
  try simp only [cs, ne_eq] at hc1
  refine W_skip ?_
  refine tn ?_
  refine r1 ?_
  refine s1 2 16 1 rfl rfl rfl rfl rfl rfl trivial ?_
  refine e1 24 rfl ?_
  refine keep [2] rfl ?_
  refine W_ret ?_
  exact out1 2 (SV.i (boolI b)) (π := []) (hout := []) Tryd.results31 rfl (by unfold boolI; rw [if_neg (by rw [hc1]; decide)]; rfl) rfl rfl trivial ⟨rfl, rfl⟩

theorem one_any (C : List Ins) (w : Wkr) (ws : List Int) (hC : mayB C = true) (hpc : w.ov = false → 0 ≤ w.pc ∧ w.pc < C.length) (hws : ws.length ≤ 200) (htl : w.told.length ≤ 200) (p : Wkr × List Int) (hp : rone C ws w = p) : Spec Tryd.prog GV 23 [.ptr 0 0 0, .sl 3 0 ws.length] [wkrB 2 C w, .map (mapL w.L), intsB w.told, intsB ws] (fun r ho => r = .tup [] ∧ ho = [some (wkrB 4 C p.1), some (.map (mapL p.1.L)), none, some (intsB p.2), some (intsB p.1.told)]) := by
  refine start 322 4 Tryd.func23 rfl rfl rfl rfl ?_
  refine W_seq ?_
  refine rename 2 rfl rfl ?_
  refine r1 ?_
  refine s1 10 12 1 rfl rfl rfl rfl rfl rfl trivial ?_
  refine s1 11 20 2 rfl rfl rfl rfl rfl rfl trivial ?_
  refine s1 12 28 3 rfl rfl rfl rfl rfl rfl trivial ?_
  refine s1 13 36 4 rfl rfl rfl rfl rfl rfl (by first | trivial | omega) ?_
  refine e1 44 rfl ?_
  refine keep [0, 1, 13] rfl ?_
  refine q1 rfl (fun hc0 => ?_) (fun hc0 => ?_)
  · skip
    try simp only [cs, ne_eq] at hc0
    refine W_ret ?_
    refine tr ?_
    have hq := hp.symm.trans (rone_over hc0)
    exact out0 (π := [0, 1, 2, 3, 4]) (hout := [some (wkrB 4 C p.1), some (.map (mapL p.1.L)), none, some (intsB p.2), some (intsB p.1.told)]) Tryd.results23 rfl rfl ⟨(by rw [hq]; rfl), (by rw [hq]; rfl), (by rw [hq]; rfl), (by rw [hq]; rfl), trivial⟩ ⟨rfl, rfl⟩
  try simp only [cs, ne_eq] at hc0
  have hpc := hpc hc0
  have hk := (fit_at hC (n := w.pc.toNat) (by omega)).k
  have hCl : C.length ≤ 200 := (by unfold mayB at hC; simp at hC; exact hC.1)
  refine W_skip ?_
  refine tn ?_
  refine rd1 rfl ?_
  refine d1 14 44 1 rfl rfl rfl rfl rfl rfl trivial ?_
  refine d1 15 52 2 rfl rfl rfl rfl rfl rfl trivial ?_
  refine d1 16 60 3 rfl rfl rfl rfl rfl rfl trivial ?_
  refine d1 17 68 4 rfl rfl rfl rfl rfl rfl (by first | trivial | omega) ?_
  refine d1 18 76 5 rfl rfl rfl rfl rfl rfl trivial ?_
  refine d1 19 84 6 rfl rfl rfl rfl rfl rfl trivial ?_
  refine d1 20 92 7 rfl rfl rfl rfl rfl rfl trivial ?_
  refine d1 21 100 8 rfl rfl rfl rfl rfl rfl (by first | trivial | omega) ?_
  refine d1 22 108 9 rfl rfl rfl rfl rfl rfl (by omega) ?_
  refine d1 23 116 10 rfl rfl rfl rfl rfl rfl (by first | trivial | omega) ?_
  refine d1 4 124 11 rfl rfl rfl rfl rfl rfl trivial ?_
  refine d0 132 12 rfl rfl rfl rfl rfl (by first | trivial | omega) ?_
  refine de1 140 rfl (by kernel_rfl) ?_
  refine keep [0, 1, 4] rfl ?_
  refine r1 ?_
  refine s1 24 140 1 rfl rfl rfl rfl rfl rfl trivial ?_
  refine s1 25 148 2 rfl rfl rfl rfl rfl rfl trivial ?_
  refine s1 26 156 3 rfl rfl rfl rfl rfl rfl trivial ?_
  refine s1 27 164 4 rfl rfl rfl rfl rfl rfl (by first | trivial | omega) ?_
  refine sA 28 172 5 rfl rfl rfl rfl rfl rfl rfl rfl rfl (by unfold inRange; omega) ?_
  refine s1 5 180 6 rfl rfl rfl rfl rfl rfl trivial ?_
  refine e1 188 rfl ?_
  refine keep [0, 1, 4, 5] rfl ?_
  refine rd1 rfl ?_
  refine d1 29 188 1 rfl rfl rfl rfl rfl rfl trivial ?_
  refine d1 30 196 2 rfl rfl rfl rfl rfl rfl trivial ?_
  refine d1 31 204 3 rfl rfl rfl rfl rfl rfl trivial ?_
  refine d1 32 212 4 rfl rfl rfl rfl rfl rfl (by first | trivial | omega) ?_
  refine d1 33 220 5 rfl rfl rfl rfl rfl rfl trivial ?_
  refine d1 34 228 6 rfl rfl rfl rfl rfl rfl (by first | trivial | omega) ?_
  refine dLook (u := SV.i (lk w.L (C.getD w.pc.toNat default).b)) (lkD w.L (C.getD w.pc.toNat default).b) (mfind_L _ _) 35 236 7 rfl rfl rfl rfl rfl rfl rfl rfl rfl rfl rfl rfl rfl rfl (lk_hd _ _) ?_
  refine d1 6 244 8 rfl rfl rfl rfl rfl rfl trivial ?_
  refine de1 252 rfl (by kernel_rfl) ?_
  refine keep [0, 1, 4, 5, 6] rfl ?_
  refine rd1 rfl ?_
  refine d1 36 252 1 rfl rfl rfl rfl rfl rfl trivial ?_
  refine d1 37 260 2 rfl rfl rfl rfl rfl rfl trivial ?_
  refine d1 38 268 3 rfl rfl rfl rfl rfl rfl trivial ?_
  refine d1 39 276 4 rfl rfl rfl rfl rfl rfl (by first | trivial | omega) ?_
  refine d1 40 284 5 rfl rfl rfl rfl rfl rfl trivial ?_
  refine d1 41 292 6 rfl rfl rfl rfl rfl rfl (by first | trivial | omega) ?_
  refine dLook (u := SV.i (lk w.L (C.getD w.pc.toNat default).c)) (lkD w.L (C.getD w.pc.toNat default).c) (mfind_L _ _) 42 300 7 rfl rfl rfl rfl rfl rfl rfl rfl rfl rfl rfl rfl rfl rfl (lk_hd _ _) ?_
  refine d1 7 308 8 rfl rfl rfl rfl rfl rfl trivial ?_
  refine de1 316 rfl (by kernel_rfl) ?_
  refine keep [0, 1, 4, 5, 6, 7] rfl ?_
  refine r1 ?_
  refine s1 8 316 1 rfl rfl rfl rfl rfl rfl trivial ?_
  refine e1 324 rfl ?_
  refine keep [0, 1, 4, 5, 6, 7, 8] rfl ?_
  refine W_seq ?_
  refine r1 ?_
  refine s1 43 324 1 rfl rfl rfl rfl rfl rfl trivial ?_
  refine s1 44 332 2 rfl rfl rfl rfl rfl rfl (by first | trivial | omega) ?_
  refine e1 340 rfl ?_
  refine keep [0, 1, 4, 5, 6, 7, 8, 44] rfl ?_
  refine W_block ?_
  refine r1 ?_
  refine s1 124 340 1 rfl rfl rfl rfl rfl rfl (by first | trivial | omega) ?_
  refine s1 123 348 2 rfl rfl rfl rfl rfl rfl trivial ?_
  refine e1 356 rfl ?_
  refine keep [0, 1, 4, 5, 6, 7, 8, 44, 123] rfl ?_
  refine q1 rfl (fun hc19 => ?_) (fun hc19 => ?_)
  · skip
    try simp only [cs, ne_eq] at hc19
    refine rd0 rfl ?_
    refine d1 125 356 1 rfl rfl rfl rfl rfl rfl trivial ?_
    refine d1 126 364 2 rfl rfl rfl rfl rfl rfl trivial ?_
    refine d1 127 372 3 rfl rfl rfl rfl rfl rfl trivial ?_
    refine d1 128 380 4 rfl rfl rfl rfl rfl rfl (by first | trivial | omega) ?_
    refine d1 129 388 5 rfl rfl rfl rfl rfl rfl trivial ?_
    refine d1 130 396 6 rfl rfl rfl rfl rfl rfl (by first | trivial | omega) ?_
    refine d1 131 404 7 rfl rfl rfl rfl rfl rfl trivial ?_
    refine d1 132 412 8 rfl rfl rfl rfl rfl rfl (by first | trivial | omega) ?_
    refine dMap ((mfind_L _ _)) 420 9 rfl rfl rfl rfl rfl rfl rfl rfl rfl rfl rfl rfl ?_
    refine de1 428 rfl (by kernel_rfl) ?_
    refine bn ?_
    refine tn ?_
    refine chval 1 _ rfl (congrArg Blk.map (mset_L _ _ _)) ?_
    refine r1 ?_
    refine s1 308 428 1 rfl rfl rfl rfl rfl rfl trivial ?_
    refine s1 309 436 2 rfl rfl rfl rfl rfl rfl trivial ?_
    refine s1 310 444 3 rfl rfl rfl rfl rfl rfl trivial ?_
    refine s1 311 452 4 rfl rfl rfl rfl rfl rfl trivial ?_
    refine s0 460 5 rfl rfl rfl rfl rfl (by first | trivial | omega) ?_
    refine e1 468 rfl ?_
    refine keep [0, 5] rfl ?_
    refine r0 ?_
    refine s1 312 468 1 rfl rfl rfl rfl rfl rfl trivial ?_
    refine s1 313 476 2 rfl rfl rfl rfl rfl rfl trivial ?_
    refine s1 314 484 3 rfl rfl rfl rfl rfl rfl trivial ?_
    refine s1 315 492 4 rfl rfl rfl rfl rfl rfl trivial ?_
    refine s1 316 500 5 rfl rfl rfl rfl rfl rfl trivial ?_
    refine s1 317 508 6 rfl rfl rfl rfl rfl rfl (by first | trivial | omega) ?_
    refine s1 318 516 7 rfl rfl rfl rfl rfl rfl (by first | trivial | omega) ?_
    refine s1 319 524 8 rfl rfl rfl rfl rfl rfl (by first | trivial | omega) ?_
    refine s1 320 532 9 rfl rfl rfl rfl rfl rfl trivial ?_
    refine s1 321 540 10 rfl rfl rfl rfl rfl rfl trivial ?_
    refine s0 548 11 rfl rfl rfl rfl rfl (by first | trivial | omega) ?_
    refine e1 556 rfl ?_
    have hq := hp.symm.trans (rone_go hc0 (rx_1 (by omega)))
    exact out0 (π := [0, 1, 2, 3, 4]) (hout := [some (wkrB 4 C p.1), some (.map (mapL p.1.L)), none, some (intsB p.2), some (intsB p.1.told)]) Tryd.results23 rfl rfl ⟨(by rw [hq]; rfl), (by rw [hq]; rfl), (by rw [hq]; rfl), (by rw [hq]; rfl), trivial⟩ ⟨rfl, rfl⟩
  try simp only [cs, ne_eq] at hc19
  refine r1 ?_
  refine s1 134 356 1 rfl rfl rfl rfl rfl rfl (by first | trivial | omega) ?_
  refine s1 133 364 2 rfl rfl rfl rfl rfl rfl trivial ?_
  refine e1 372 rfl ?_
  refine keep [0, 1, 4, 5, 6, 7, 8, 44, 133] rfl ?_
  refine q1 rfl (fun hc21 => ?_) (fun hc21 => ?_)
  · skip
    try simp only [cs, ne_eq] at hc21
    refine rd0 rfl ?_
    refine d1 135 372 1 rfl rfl rfl rfl rfl rfl trivial ?_
    refine d1 136 380 2 rfl rfl rfl rfl rfl rfl trivial ?_
    refine d1 137 388 3 rfl rfl rfl rfl rfl rfl trivial ?_
    refine d1 138 396 4 rfl rfl rfl rfl rfl rfl (by first | trivial | omega) ?_
    refine d1 139 404 5 rfl rfl rfl rfl rfl rfl trivial ?_
    refine d1 140 412 6 rfl rfl rfl rfl rfl rfl (by first | trivial | omega) ?_
    refine d1 141 420 7 rfl rfl rfl rfl rfl rfl trivial ?_
    refine dMap ((mfind_L _ _)) 428 8 rfl rfl rfl rfl rfl rfl rfl rfl rfl rfl rfl rfl ?_
    refine de1 436 rfl (by kernel_rfl) ?_
    refine bn ?_
    refine tn ?_
    refine chval 1 _ rfl (congrArg Blk.map (mset_L _ _ _)) ?_
    refine r1 ?_
    refine s1 308 436 1 rfl rfl rfl rfl rfl rfl trivial ?_
    refine s1 309 444 2 rfl rfl rfl rfl rfl rfl trivial ?_
    refine s1 310 452 3 rfl rfl rfl rfl rfl rfl trivial ?_
    refine s1 311 460 4 rfl rfl rfl rfl rfl rfl trivial ?_
    refine s0 468 5 rfl rfl rfl rfl rfl (by first | trivial | omega) ?_
    refine e1 476 rfl ?_
    refine keep [0, 5] rfl ?_
    refine r0 ?_
    refine s1 312 476 1 rfl rfl rfl rfl rfl rfl trivial ?_
    refine s1 313 484 2 rfl rfl rfl rfl rfl rfl trivial ?_
    refine s1 314 492 3 rfl rfl rfl rfl rfl rfl trivial ?_
    refine s1 315 500 4 rfl rfl rfl rfl rfl rfl trivial ?_
    refine s1 316 508 5 rfl rfl rfl rfl rfl rfl trivial ?_
    refine s1 317 516 6 rfl rfl rfl rfl rfl rfl (by first | trivial | omega) ?_
    refine s1 318 524 7 rfl rfl rfl rfl rfl rfl (by first | trivial | omega) ?_
    refine s1 319 532 8 rfl rfl rfl rfl rfl rfl (by first | trivial | omega) ?_
    refine s1 320 540 9 rfl rfl rfl rfl rfl rfl trivial ?_
    refine s1 321 548 10 rfl rfl rfl rfl rfl rfl trivial ?_
    refine s0 556 11 rfl rfl rfl rfl rfl (by first | trivial | omega) ?_
    refine e1 564 rfl ?_
    have hq := hp.symm.trans (rone_go hc0 (rx_2 (by omega)))
    exact out0 (π := [0, 1, 2, 3, 4]) (hout := [some (wkrB 4 C p.1), some (.map (mapL p.1.L)), none, some (intsB p.2), some (intsB p.1.told)]) Tryd.results23 rfl rfl ⟨(by rw [hq]; rfl), (by rw [hq]; rfl), (by rw [hq]; rfl), (by rw [hq]; rfl), trivial⟩ ⟨rfl, rfl⟩
  try simp only [cs, ne_eq] at hc21
  refine r1 ?_
  refine s1 143 372 1 rfl rfl rfl rfl rfl rfl (by first | trivial | omega) ?_
  refine s1 142 380 2 rfl rfl rfl rfl rfl rfl trivial ?_
  refine e1 388 rfl ?_
  refine keep [0, 1, 4, 5, 6, 7, 8, 44, 142] rfl ?_
  refine q1 rfl (fun hc23 => ?_) (fun hc23 => ?_)
  · skip
    try simp only [cs, ne_eq] at hc23
    refine rd0 rfl ?_
    refine d1 144 388 1 rfl rfl rfl rfl rfl rfl trivial ?_
    refine d1 145 396 2 rfl rfl rfl rfl rfl rfl trivial ?_
    refine d1 146 404 3 rfl rfl rfl rfl rfl rfl trivial ?_
    refine d1 147 412 4 rfl rfl rfl rfl rfl rfl (by first | trivial | omega) ?_
    refine d1 148 420 5 rfl rfl rfl rfl rfl rfl trivial ?_
    refine d1 149 428 6 rfl rfl rfl rfl rfl rfl (by first | trivial | omega) ?_
    refine d1 150 436 7 rfl rfl rfl rfl rfl rfl trivial ?_
    refine d1 151 444 8 rfl rfl rfl rfl rfl rfl trivial ?_
    refine d1 152 452 9 rfl rfl rfl rfl rfl rfl (by first | trivial | omega) ?_
    refine dMap ((mfind_L _ _)) 460 10 rfl rfl rfl rfl rfl rfl rfl rfl rfl rfl rfl rfl ?_
    refine de1 468 rfl (by kernel_rfl) ?_
    refine bn ?_
    refine tn ?_
    refine chval 1 _ rfl (congrArg Blk.map (mset_L _ _ _)) ?_
    refine r1 ?_
    refine s1 308 468 1 rfl rfl rfl rfl rfl rfl trivial ?_
    refine s1 309 476 2 rfl rfl rfl rfl rfl rfl trivial ?_
    refine s1 310 484 3 rfl rfl rfl rfl rfl rfl trivial ?_
    refine s1 311 492 4 rfl rfl rfl rfl rfl rfl trivial ?_
    refine s0 500 5 rfl rfl rfl rfl rfl (by first | trivial | omega) ?_
    refine e1 508 rfl ?_
    refine keep [0, 5] rfl ?_
    refine r0 ?_
    refine s1 312 508 1 rfl rfl rfl rfl rfl rfl trivial ?_
    refine s1 313 516 2 rfl rfl rfl rfl rfl rfl trivial ?_
    refine s1 314 524 3 rfl rfl rfl rfl rfl rfl trivial ?_
    refine s1 315 532 4 rfl rfl rfl rfl rfl rfl trivial ?_
    refine s1 316 540 5 rfl rfl rfl rfl rfl rfl trivial ?_
    refine s1 317 548 6 rfl rfl rfl rfl rfl rfl (by first | trivial | omega) ?_
    refine s1 318 556 7 rfl rfl rfl rfl rfl rfl (by first | trivial | omega) ?_
    refine s1 319 564 8 rfl rfl rfl rfl rfl rfl (by first | trivial | omega) ?_
    refine s1 320 572 9 rfl rfl rfl rfl rfl rfl trivial ?_
    refine s1 321 580 10 rfl rfl rfl rfl rfl rfl trivial ?_
    refine s0 588 11 rfl rfl rfl rfl rfl (by first | trivial | omega) ?_
    refine e1 596 rfl ?_
    have hq := hp.symm.trans (rone_go hc0 (rx_3 (by omega)))
    exact out0 (π := [0, 1, 2, 3, 4]) (hout := [some (wkrB 4 C p.1), some (.map (mapL p.1.L)), none, some (intsB p.2), some (intsB p.1.told)]) Tryd.results23 rfl rfl ⟨(by rw [hq]; rfl), (by rw [hq]; rfl), (by rw [hq]; rfl), (by rw [hq]; rfl), trivial⟩ ⟨rfl, rfl⟩
  try simp only [cs, ne_eq] at hc23
  refine r1 ?_
  refine s1 154 388 1 rfl rfl rfl rfl rfl rfl (by first | trivial | omega) ?_
  refine s1 153 396 2 rfl rfl rfl rfl rfl rfl trivial ?_
  refine e1 404 rfl ?_
  refine keep [0, 1, 4, 5, 6, 7, 8, 44, 153] rfl ?_
  refine q1 rfl (fun hc25 => ?_) (fun hc25 => ?_)
  · skip
    try simp only [cs, ne_eq] at hc25
    refine rd0 rfl ?_
    refine d1 155 404 1 rfl rfl rfl rfl rfl rfl trivial ?_
    refine d1 156 412 2 rfl rfl rfl rfl rfl rfl trivial ?_
    refine d1 157 420 3 rfl rfl rfl rfl rfl rfl trivial ?_
    refine d1 158 428 4 rfl rfl rfl rfl rfl rfl (by first | trivial | omega) ?_
    refine d1 159 436 5 rfl rfl rfl rfl rfl rfl trivial ?_
    refine d1 160 444 6 rfl rfl rfl rfl rfl rfl (by first | trivial | omega) ?_
    refine d1 161 452 7 rfl rfl rfl rfl rfl rfl trivial ?_
    refine d1 162 460 8 rfl rfl rfl rfl rfl rfl trivial ?_
    refine d1 163 468 9 rfl rfl rfl rfl rfl rfl (by first | trivial | omega) ?_
    refine dMap ((mfind_L _ _)) 476 10 rfl rfl rfl rfl rfl rfl rfl rfl rfl rfl rfl rfl ?_
    refine de1 484 rfl (by kernel_rfl) ?_
    refine bn ?_
    refine tn ?_
    refine chval 1 _ rfl (congrArg Blk.map (mset_L _ _ _)) ?_
    refine r1 ?_
    refine s1 308 484 1 rfl rfl rfl rfl rfl rfl trivial ?_
    refine s1 309 492 2 rfl rfl rfl rfl rfl rfl trivial ?_
    refine s1 310 500 3 rfl rfl rfl rfl rfl rfl trivial ?_
    refine s1 311 508 4 rfl rfl rfl rfl rfl rfl trivial ?_
    refine s0 516 5 rfl rfl rfl rfl rfl (by first | trivial | omega) ?_
    refine e1 524 rfl ?_
    refine keep [0, 5] rfl ?_
    refine r0 ?_
    refine s1 312 524 1 rfl rfl rfl rfl rfl rfl trivial ?_
    refine s1 313 532 2 rfl rfl rfl rfl rfl rfl trivial ?_
    refine s1 314 540 3 rfl rfl rfl rfl rfl rfl trivial ?_
    refine s1 315 548 4 rfl rfl rfl rfl rfl rfl trivial ?_
    refine s1 316 556 5 rfl rfl rfl rfl rfl rfl trivial ?_
    refine s1 317 564 6 rfl rfl rfl rfl rfl rfl (by first | trivial | omega) ?_
    refine s1 318 572 7 rfl rfl rfl rfl rfl rfl (by first | trivial | omega) ?_
    refine s1 319 580 8 rfl rfl rfl rfl rfl rfl (by first | trivial | omega) ?_
    refine s1 320 588 9 rfl rfl rfl rfl rfl rfl trivial ?_
    refine s1 321 596 10 rfl rfl rfl rfl rfl rfl trivial ?_
    refine s0 604 11 rfl rfl rfl rfl rfl (by first | trivial | omega) ?_
    refine e1 612 rfl ?_
    have hq := hp.symm.trans (rone_go hc0 (rx_4 (by omega)))
    exact out0 (π := [0, 1, 2, 3, 4]) (hout := [some (wkrB 4 C p.1), some (.map (mapL p.1.L)), none, some (intsB p.2), some (intsB p.1.told)]) Tryd.results23 rfl rfl ⟨(by rw [hq]; rfl), (by rw [hq]; rfl), (by rw [hq]; rfl), (by rw [hq]; rfl), trivial⟩ ⟨rfl, rfl⟩
  try simp only [cs, ne_eq] at hc25
  refine r1 ?_
  refine s1 165 404 1 rfl rfl rfl rfl rfl rfl (by first | trivial | omega) ?_
  refine s1 164 412 2 rfl rfl rfl rfl rfl rfl trivial ?_
  refine e1 420 rfl ?_
  refine keep [0, 1, 4, 5, 6, 7, 8, 44, 164] rfl ?_
  refine q1 rfl (fun hc27 => ?_) (fun hc27 => ?_)
  · skip
    try simp only [cs, ne_eq] at hc27
    refine rd0 rfl ?_
    refine d1 166 420 1 rfl rfl rfl rfl rfl rfl trivial ?_
    refine d1 167 428 2 rfl rfl rfl rfl rfl rfl trivial ?_
    refine d1 168 436 3 rfl rfl rfl rfl rfl rfl trivial ?_
    refine d1 169 444 4 rfl rfl rfl rfl rfl rfl (by first | trivial | omega) ?_
    refine d1 170 452 5 rfl rfl rfl rfl rfl rfl trivial ?_
    refine d1 171 460 6 rfl rfl rfl rfl rfl rfl (by first | trivial | omega) ?_
    refine d1 172 468 7 rfl rfl rfl rfl rfl rfl trivial ?_
    refine d1 173 476 8 rfl rfl rfl rfl rfl rfl trivial ?_
    refine d1 174 484 9 rfl rfl rfl rfl rfl rfl (by first | trivial | omega) ?_
    refine dMap ((mfind_L _ _)) 492 10 rfl rfl rfl rfl rfl rfl rfl rfl rfl rfl rfl rfl ?_
    refine de1 500 rfl (by kernel_rfl) ?_
    refine bn ?_
    refine tn ?_
    refine chval 1 _ rfl (congrArg Blk.map (mset_L _ _ _)) ?_
    refine r1 ?_
    refine s1 308 500 1 rfl rfl rfl rfl rfl rfl trivial ?_
    refine s1 309 508 2 rfl rfl rfl rfl rfl rfl trivial ?_
    refine s1 310 516 3 rfl rfl rfl rfl rfl rfl trivial ?_
    refine s1 311 524 4 rfl rfl rfl rfl rfl rfl trivial ?_
    refine s0 532 5 rfl rfl rfl rfl rfl (by first | trivial | omega) ?_
    refine e1 540 rfl ?_
    refine keep [0, 5] rfl ?_
    refine r0 ?_
    refine s1 312 540 1 rfl rfl rfl rfl rfl rfl trivial ?_
    refine s1 313 548 2 rfl rfl rfl rfl rfl rfl trivial ?_
    refine s1 314 556 3 rfl rfl rfl rfl rfl rfl trivial ?_
    refine s1 315 564 4 rfl rfl rfl rfl rfl rfl trivial ?_
    refine s1 316 572 5 rfl rfl rfl rfl rfl rfl trivial ?_
    refine s1 317 580 6 rfl rfl rfl rfl rfl rfl (by first | trivial | omega) ?_
    refine s1 318 588 7 rfl rfl rfl rfl rfl rfl (by first | trivial | omega) ?_
    refine s1 319 596 8 rfl rfl rfl rfl rfl rfl (by first | trivial | omega) ?_
    refine s1 320 604 9 rfl rfl rfl rfl rfl rfl trivial ?_
    refine s1 321 612 10 rfl rfl rfl rfl rfl rfl trivial ?_
    refine s0 620 11 rfl rfl rfl rfl rfl (by first | trivial | omega) ?_
    refine e1 628 rfl ?_
    have hq := hp.symm.trans (rone_go hc0 (rx_5 (by omega)))
    exact out0 (π := [0, 1, 2, 3, 4]) (hout := [some (wkrB 4 C p.1), some (.map (mapL p.1.L)), none, some (intsB p.2), some (intsB p.1.told)]) Tryd.results23 rfl rfl ⟨(by rw [hq]; rfl), (by rw [hq]; rfl), (by rw [hq]; rfl), (by rw [hq]; rfl), trivial⟩ ⟨rfl, rfl⟩
  try simp only [cs, ne_eq] at hc27
  refine r1 ?_
  refine s1 176 420 1 rfl rfl rfl rfl rfl rfl (by first | trivial | omega) ?_
  refine s1 175 428 2 rfl rfl rfl rfl rfl rfl trivial ?_
  refine e1 436 rfl ?_
  refine keep [0, 1, 4, 5, 6, 7, 8, 44, 175] rfl ?_
  refine q1 rfl (fun hc29 => ?_) (fun hc29 => ?_)
  · skip
    try simp only [cs, ne_eq] at hc29
    refine rd1 rfl ?_
    refine d1 177 436 1 rfl rfl rfl rfl rfl rfl trivial ?_
    refine d1 178 444 2 rfl rfl rfl rfl rfl rfl trivial ?_
    refine d1 179 452 3 rfl rfl rfl rfl rfl rfl trivial ?_
    refine d1 180 460 4 rfl rfl rfl rfl rfl rfl (by first | trivial | omega) ?_
    refine d1 181 468 5 rfl rfl rfl rfl rfl rfl trivial ?_
    refine d1 182 476 6 rfl rfl rfl rfl rfl rfl (by first | trivial | omega) ?_
    refine dMap ((mfind_L _ _)) 484 7 rfl rfl rfl rfl rfl rfl rfl rfl rfl rfl rfl rfl ?_
    refine de1 492 rfl (by kernel_rfl) ?_
    refine keep [0, 4, 5, 6, 7] rfl ?_
    refine chval 1 _ rfl (congrArg Blk.map (mset_L _ _ _)) ?_
    refine r1 ?_
    refine s1 183 492 1 rfl rfl rfl rfl rfl rfl trivial ?_
    refine s1 184 500 2 rfl rfl rfl rfl rfl rfl (by first | trivial | omega) ?_
    refine e1 508 rfl ?_
    refine keep [0, 4, 5, 6, 7, 184] rfl ?_
    refine q1 rfl (fun hc31 => ?_) (fun hc31 => ?_)
    · skip
      try simp only [cs, ne_eq] at hc31
      refine rd0 rfl ?_
      refine d1 185 508 1 rfl rfl rfl rfl rfl rfl trivial ?_
      refine d1 186 516 2 rfl rfl rfl rfl rfl rfl trivial ?_
      refine d1 187 524 3 rfl rfl rfl rfl rfl rfl trivial ?_
      refine d1 188 532 4 rfl rfl rfl rfl rfl rfl (by first | trivial | omega) ?_
      refine d1 189 540 5 rfl rfl rfl rfl rfl rfl trivial ?_
      refine d1 190 548 6 rfl rfl rfl rfl rfl rfl (by first | trivial | omega) ?_
      refine d1 191 556 7 rfl rfl rfl rfl rfl rfl trivial ?_
      refine d1 192 564 8 rfl rfl rfl rfl rfl rfl trivial ?_
      refine d1 193 572 9 rfl rfl rfl rfl rfl rfl hc31 ?_
      refine dMap ((mfind_L _ _)) 580 10 rfl rfl rfl rfl rfl rfl rfl rfl rfl rfl rfl rfl ?_
      refine de1 588 rfl (by kernel_rfl) ?_
      refine bn ?_
      refine tn ?_
      refine chval 1 _ rfl (congrArg Blk.map (mset_L _ _ _)) ?_
      refine r1 ?_
      refine s1 308 588 1 rfl rfl rfl rfl rfl rfl trivial ?_
      refine s1 309 596 2 rfl rfl rfl rfl rfl rfl trivial ?_
      refine s1 310 604 3 rfl rfl rfl rfl rfl rfl trivial ?_
      refine s1 311 612 4 rfl rfl rfl rfl rfl rfl trivial ?_
      refine s0 620 5 rfl rfl rfl rfl rfl (by first | trivial | omega) ?_
      refine e1 628 rfl ?_
      refine keep [0, 5] rfl ?_
      refine r0 ?_
      refine s1 312 628 1 rfl rfl rfl rfl rfl rfl trivial ?_
      refine s1 313 636 2 rfl rfl rfl rfl rfl rfl trivial ?_
      refine s1 314 644 3 rfl rfl rfl rfl rfl rfl trivial ?_
      refine s1 315 652 4 rfl rfl rfl rfl rfl rfl trivial ?_
      refine s1 316 660 5 rfl rfl rfl rfl rfl rfl trivial ?_
      refine s1 317 668 6 rfl rfl rfl rfl rfl rfl (by first | trivial | omega) ?_
      refine s1 318 676 7 rfl rfl rfl rfl rfl rfl (by first | trivial | omega) ?_
      refine s1 319 684 8 rfl rfl rfl rfl rfl rfl (by first | trivial | omega) ?_
      refine s1 320 692 9 rfl rfl rfl rfl rfl rfl trivial ?_
      refine s1 321 700 10 rfl rfl rfl rfl rfl rfl trivial ?_
      refine s0 708 11 rfl rfl rfl rfl rfl (by first | trivial | omega) ?_
      refine e1 716 rfl ?_
      have hq := hp.symm.trans (rone_go hc0 (rx_6q (by omega) hc31))
      exact out0 (π := [0, 1, 2, 3, 4]) (hout := [some (wkrB 4 C p.1), some (.map (mapL p.1.L)), none, some (intsB p.2), some (intsB p.1.told)]) Tryd.results23 rfl rfl ⟨(by rw [hq]; rfl), (by rw [hq]; rfl), (by rw [hq]; rfl), (by rw [hq]; rfl), trivial⟩ ⟨rfl, rfl⟩
    try simp only [cs, ne_eq] at hc31
    refine W_skip ?_
    refine bn ?_
    refine tn ?_
    refine r1 ?_
    refine s1 308 508 1 rfl rfl rfl rfl rfl rfl trivial ?_
    refine s1 309 516 2 rfl rfl rfl rfl rfl rfl trivial ?_
    refine s1 310 524 3 rfl rfl rfl rfl rfl rfl trivial ?_
    refine s1 311 532 4 rfl rfl rfl rfl rfl rfl trivial ?_
    refine s0 540 5 rfl rfl rfl rfl rfl (by first | trivial | omega) ?_
    refine e1 548 rfl ?_
    refine keep [0, 5] rfl ?_
    refine r0 ?_
    refine s1 312 548 1 rfl rfl rfl rfl rfl rfl trivial ?_
    refine s1 313 556 2 rfl rfl rfl rfl rfl rfl trivial ?_
    refine s1 314 564 3 rfl rfl rfl rfl rfl rfl trivial ?_
    refine s1 315 572 4 rfl rfl rfl rfl rfl rfl trivial ?_
    refine s1 316 580 5 rfl rfl rfl rfl rfl rfl trivial ?_
    refine s1 317 588 6 rfl rfl rfl rfl rfl rfl (by first | trivial | omega) ?_
    refine s1 318 596 7 rfl rfl rfl rfl rfl rfl (by first | trivial | omega) ?_
    refine s1 319 604 8 rfl rfl rfl rfl rfl rfl (by first | trivial | omega) ?_
    refine s1 320 612 9 rfl rfl rfl rfl rfl rfl trivial ?_
    refine s1 321 620 10 rfl rfl rfl rfl rfl rfl trivial ?_
    refine s0 628 11 rfl rfl rfl rfl rfl (by first | trivial | omega) ?_
    refine e1 636 rfl ?_
    have hq := hp.symm.trans (rone_go hc0 (rx_6z (by omega) hc31))
    exact out0 (π := [0, 1, 2, 3, 4]) (hout := [some (wkrB 4 C p.1), some (.map (mapL p.1.L)), none, some (intsB p.2), some (intsB p.1.told)]) Tryd.results23 rfl rfl ⟨(by rw [hq]; rfl), (by rw [hq]; rfl), (by rw [hq]; rfl), (by rw [hq]; rfl), trivial⟩ ⟨rfl, rfl⟩
  try simp only [cs, ne_eq] at hc29
  refine r1 ?_
  refine s1 195 436 1 rfl rfl rfl rfl rfl rfl (by first | trivial | omega) ?_
  refine s1 194 444 2 rfl rfl rfl rfl rfl rfl trivial ?_
  refine e1 452 rfl ?_
  refine keep [0, 1, 4, 5, 6, 7, 8, 44, 194] rfl ?_
  refine q1 rfl (fun hc33 => ?_) (fun hc33 => ?_)
  · skip
    try simp only [cs, ne_eq] at hc33
    refine rd1 rfl ?_
    refine d1 196 452 1 rfl rfl rfl rfl rfl rfl trivial ?_
    refine d1 197 460 2 rfl rfl rfl rfl rfl rfl trivial ?_
    refine d1 198 468 3 rfl rfl rfl rfl rfl rfl trivial ?_
    refine d1 199 476 4 rfl rfl rfl rfl rfl rfl (by first | trivial | omega) ?_
    refine d1 200 484 5 rfl rfl rfl rfl rfl rfl trivial ?_
    refine d1 201 492 6 rfl rfl rfl rfl rfl rfl (by first | trivial | omega) ?_
    refine dMap ((mfind_L _ _)) 500 7 rfl rfl rfl rfl rfl rfl rfl rfl rfl rfl rfl rfl ?_
    refine de1 508 rfl (by kernel_rfl) ?_
    refine keep [0, 4, 5, 6, 7] rfl ?_
    refine chval 1 _ rfl (congrArg Blk.map (mset_L _ _ _)) ?_
    refine r1 ?_
    refine s1 202 508 1 rfl rfl rfl rfl rfl rfl trivial ?_
    refine s1 203 516 2 rfl rfl rfl rfl rfl rfl (by first | trivial | omega) ?_
    refine e1 524 rfl ?_
    refine keep [0, 4, 5, 6, 7, 203] rfl ?_
    refine q1 rfl (fun hc35 => ?_) (fun hc35 => ?_)
    · skip
      try simp only [cs, ne_eq] at hc35
      refine rd0 rfl ?_
      refine d1 204 524 1 rfl rfl rfl rfl rfl rfl trivial ?_
      refine d1 205 532 2 rfl rfl rfl rfl rfl rfl trivial ?_
      refine d1 206 540 3 rfl rfl rfl rfl rfl rfl trivial ?_
      refine d1 207 548 4 rfl rfl rfl rfl rfl rfl (by first | trivial | omega) ?_
      refine d1 208 556 5 rfl rfl rfl rfl rfl rfl trivial ?_
      refine d1 209 564 6 rfl rfl rfl rfl rfl rfl (by first | trivial | omega) ?_
      refine d1 210 572 7 rfl rfl rfl rfl rfl rfl trivial ?_
      refine d1 211 580 8 rfl rfl rfl rfl rfl rfl trivial ?_
      refine d1 212 588 9 rfl rfl rfl rfl rfl rfl trivial ?_
      refine d1 213 596 10 rfl rfl rfl rfl rfl rfl hc35 ?_
      refine d1 214 604 11 rfl rfl rfl rfl rfl rfl trivial ?_
      refine d1 215 612 12 rfl rfl rfl rfl rfl rfl (by first | trivial | omega) ?_
      refine d1 216 620 13 rfl rfl rfl rfl rfl rfl (by first | trivial | omega) ?_
      refine dMap ((mfind_L _ _)) 628 14 rfl rfl rfl rfl rfl rfl rfl rfl rfl rfl rfl rfl ?_
      refine de1 636 rfl (by kernel_rfl) ?_
      refine bn ?_
      refine tn ?_
      refine chval 1 _ rfl (congrArg Blk.map (mset_L _ _ _)) ?_
      refine r1 ?_
      refine s1 308 636 1 rfl rfl rfl rfl rfl rfl trivial ?_
      refine s1 309 644 2 rfl rfl rfl rfl rfl rfl trivial ?_
      refine s1 310 652 3 rfl rfl rfl rfl rfl rfl trivial ?_
      refine s1 311 660 4 rfl rfl rfl rfl rfl rfl trivial ?_
      refine s0 668 5 rfl rfl rfl rfl rfl (by first | trivial | omega) ?_
      refine e1 676 rfl ?_
      refine keep [0, 5] rfl ?_
      refine r0 ?_
      refine s1 312 676 1 rfl rfl rfl rfl rfl rfl trivial ?_
      refine s1 313 684 2 rfl rfl rfl rfl rfl rfl trivial ?_
      refine s1 314 692 3 rfl rfl rfl rfl rfl rfl trivial ?_
      refine s1 315 700 4 rfl rfl rfl rfl rfl rfl trivial ?_
      refine s1 316 708 5 rfl rfl rfl rfl rfl rfl trivial ?_
      refine s1 317 716 6 rfl rfl rfl rfl rfl rfl (by first | trivial | omega) ?_
      refine s1 318 724 7 rfl rfl rfl rfl rfl rfl (by first | trivial | omega) ?_
      refine s1 319 732 8 rfl rfl rfl rfl rfl rfl (by first | trivial | omega) ?_
      refine s1 320 740 9 rfl rfl rfl rfl rfl rfl trivial ?_
      refine s1 321 748 10 rfl rfl rfl rfl rfl rfl trivial ?_
      refine s0 756 11 rfl rfl rfl rfl rfl (by first | trivial | omega) ?_
      refine e1 764 rfl ?_
      have hq := hp.symm.trans (rone_go hc0 (rx_7q (by omega) hc35))
      exact out0 (π := [0, 1, 2, 3, 4]) (hout := [some (wkrB 4 C p.1), some (.map (mapL p.1.L)), none, some (intsB p.2), some (intsB p.1.told)]) Tryd.results23 rfl rfl ⟨(by rw [hq]; rfl), (by rw [hq]; rfl), (by rw [hq]; rfl), (by rw [hq]; rfl), trivial⟩ ⟨rfl, rfl⟩
    try simp only [cs, ne_eq] at hc35
    refine W_skip ?_
    refine bn ?_
    refine tn ?_
    refine r1 ?_
    refine s1 308 524 1 rfl rfl rfl rfl rfl rfl trivial ?_
    refine s1 309 532 2 rfl rfl rfl rfl rfl rfl trivial ?_
    refine s1 310 540 3 rfl rfl rfl rfl rfl rfl trivial ?_
    refine s1 311 548 4 rfl rfl rfl rfl rfl rfl trivial ?_
    refine s0 556 5 rfl rfl rfl rfl rfl (by first | trivial | omega) ?_
    refine e1 564 rfl ?_
    refine keep [0, 5] rfl ?_
    refine r0 ?_
    refine s1 312 564 1 rfl rfl rfl rfl rfl rfl trivial ?_
    refine s1 313 572 2 rfl rfl rfl rfl rfl rfl trivial ?_
    refine s1 314 580 3 rfl rfl rfl rfl rfl rfl trivial ?_
    refine s1 315 588 4 rfl rfl rfl rfl rfl rfl trivial ?_
    refine s1 316 596 5 rfl rfl rfl rfl rfl rfl trivial ?_
    refine s1 317 604 6 rfl rfl rfl rfl rfl rfl (by first | trivial | omega) ?_
    refine s1 318 612 7 rfl rfl rfl rfl rfl rfl (by first | trivial | omega) ?_
    refine s1 319 620 8 rfl rfl rfl rfl rfl rfl (by first | trivial | omega) ?_
    refine s1 320 628 9 rfl rfl rfl rfl rfl rfl trivial ?_
    refine s1 321 636 10 rfl rfl rfl rfl rfl rfl trivial ?_
    refine s0 644 11 rfl rfl rfl rfl rfl (by first | trivial | omega) ?_
    refine e1 652 rfl ?_
    have hq := hp.symm.trans (rone_go hc0 (rx_7z (by omega) hc35))
    exact out0 (π := [0, 1, 2, 3, 4]) (hout := [some (wkrB 4 C p.1), some (.map (mapL p.1.L)), none, some (intsB p.2), some (intsB p.1.told)]) Tryd.results23 rfl rfl ⟨(by rw [hq]; rfl), (by rw [hq]; rfl), (by rw [hq]; rfl), (by rw [hq]; rfl), trivial⟩ ⟨rfl, rfl⟩
  try simp only [cs, ne_eq] at hc33
  refine r1 ?_
  refine s1 218 452 1 rfl rfl rfl rfl rfl rfl (by first | trivial | omega) ?_
  refine s1 217 460 2 rfl rfl rfl rfl rfl rfl trivial ?_
  refine e1 468 rfl ?_
  refine keep [0, 1, 4, 5, 6, 7, 8, 44, 217] rfl ?_
  refine q1 rfl (fun hc37 => ?_) (fun hc37 => ?_)
  · skip
    try simp only [cs, ne_eq] at hc37
    refine rd0 rfl ?_
    refine d1 219 468 1 rfl rfl rfl rfl rfl rfl trivial ?_
    refine d1 220 476 2 rfl rfl rfl rfl rfl rfl trivial ?_
    refine d1 221 484 3 rfl rfl rfl rfl rfl rfl trivial ?_
    refine d1 222 492 4 rfl rfl rfl rfl rfl rfl (by first | trivial | omega) ?_
    refine d1 223 500 5 rfl rfl rfl rfl rfl rfl trivial ?_
    refine d1 224 508 6 rfl rfl rfl rfl rfl rfl (by first | trivial | omega) ?_
    refine d1 225 516 7 rfl rfl rfl rfl rfl rfl trivial ?_
    refine d1 226 524 8 rfl rfl rfl rfl rfl rfl trivial ?_
    refine d1 227 532 9 rfl rfl rfl rfl rfl rfl trivial ?_
    refine d1 228 540 10 rfl rfl rfl rfl rfl rfl (by first | trivial | omega) ?_
    refine dc1 (bit_any (decide (lk w.L (C.getD w.pc.toNat default).b = lk w.L (C.getD w.pc.toNat default).c))) [] [] 229 548 11 rfl rfl rfl rfl rfl rfl rfl rfl Tryd.func31 rfl rfl rfl rfl trivial rfl rfl ?_
    refine dMap ((mfind_L _ _)) 556 12 rfl rfl rfl rfl rfl rfl rfl rfl rfl rfl rfl rfl ?_
    refine de1 564 rfl (by kernel_rfl) ?_
    refine bn ?_
    refine tn ?_
    refine chval 1 _ rfl (congrArg Blk.map (mset_L _ _ _)) ?_
    refine r1 ?_
    refine s1 308 564 1 rfl rfl rfl rfl rfl rfl trivial ?_
    refine s1 309 572 2 rfl rfl rfl rfl rfl rfl trivial ?_
    refine s1 310 580 3 rfl rfl rfl rfl rfl rfl trivial ?_
    refine s1 311 588 4 rfl rfl rfl rfl rfl rfl trivial ?_
    refine s0 596 5 rfl rfl rfl rfl rfl (by first | trivial | omega) ?_
    refine e1 604 rfl ?_
    refine keep [0, 5] rfl ?_
    refine r0 ?_
    refine s1 312 604 1 rfl rfl rfl rfl rfl rfl trivial ?_
    refine s1 313 612 2 rfl rfl rfl rfl rfl rfl trivial ?_
    refine s1 314 620 3 rfl rfl rfl rfl rfl rfl trivial ?_
    refine s1 315 628 4 rfl rfl rfl rfl rfl rfl trivial ?_
    refine s1 316 636 5 rfl rfl rfl rfl rfl rfl trivial ?_
    refine s1 317 644 6 rfl rfl rfl rfl rfl rfl (by first | trivial | omega) ?_
    refine s1 318 652 7 rfl rfl rfl rfl rfl rfl (by first | trivial | omega) ?_
    refine s1 319 660 8 rfl rfl rfl rfl rfl rfl (by first | trivial | omega) ?_
    refine s1 320 668 9 rfl rfl rfl rfl rfl rfl trivial ?_
    refine s1 321 676 10 rfl rfl rfl rfl rfl rfl trivial ?_
    refine s0 684 11 rfl rfl rfl rfl rfl (by first | trivial | omega) ?_
    refine e1 692 rfl ?_
    have hq := hp.symm.trans (rone_go hc0 (rx_8 (by omega)))
    exact out0 (π := [0, 1, 2, 3, 4]) (hout := [some (wkrB 4 C p.1), some (.map (mapL p.1.L)), none, some (intsB p.2), some (intsB p.1.told)]) Tryd.results23 rfl rfl ⟨(by rw [hq]; rfl), (by rw [hq]; rfl), (by rw [hq]; rfl), (by rw [hq]; rfl), trivial⟩ ⟨rfl, rfl⟩
  try simp only [cs, ne_eq] at hc37
  refine r1 ?_
  refine s1 231 468 1 rfl rfl rfl rfl rfl rfl (by first | trivial | omega) ?_
  refine s1 230 476 2 rfl rfl rfl rfl rfl rfl trivial ?_
  refine e1 484 rfl ?_
  refine keep [0, 1, 4, 5, 6, 7, 8, 44, 230] rfl ?_
  refine q1 rfl (fun hc39 => ?_) (fun hc39 => ?_)
  · skip
    try simp only [cs, ne_eq] at hc39
    refine rd0 rfl ?_
    refine d1 232 484 1 rfl rfl rfl rfl rfl rfl trivial ?_
    refine d1 233 492 2 rfl rfl rfl rfl rfl rfl trivial ?_
    refine d1 234 500 3 rfl rfl rfl rfl rfl rfl trivial ?_
    refine d1 235 508 4 rfl rfl rfl rfl rfl rfl (by first | trivial | omega) ?_
    refine d1 236 516 5 rfl rfl rfl rfl rfl rfl trivial ?_
    refine d1 237 524 6 rfl rfl rfl rfl rfl rfl (by first | trivial | omega) ?_
    refine d1 238 532 7 rfl rfl rfl rfl rfl rfl trivial ?_
    refine d1 239 540 8 rfl rfl rfl rfl rfl rfl trivial ?_
    refine d1 240 548 9 rfl rfl rfl rfl rfl rfl trivial ?_
    refine d1 241 556 10 rfl rfl rfl rfl rfl rfl (by first | trivial | omega) ?_
    refine dc1 (bit_any (decide (lk w.L (C.getD w.pc.toNat default).b < lk w.L (C.getD w.pc.toNat default).c))) [] [] 242 564 11 rfl rfl rfl rfl rfl rfl rfl rfl Tryd.func31 rfl rfl rfl rfl trivial rfl rfl ?_
    refine dMap ((mfind_L _ _)) 572 12 rfl rfl rfl rfl rfl rfl rfl rfl rfl rfl rfl rfl ?_
    refine de1 580 rfl (by kernel_rfl) ?_
    refine bn ?_
    refine tn ?_
    refine chval 1 _ rfl (congrArg Blk.map (mset_L _ _ _)) ?_
    refine r1 ?_
    refine s1 308 580 1 rfl rfl rfl rfl rfl rfl trivial ?_
    refine s1 309 588 2 rfl rfl rfl rfl rfl rfl trivial ?_
    refine s1 310 596 3 rfl rfl rfl rfl rfl rfl trivial ?_
    refine s1 311 604 4 rfl rfl rfl rfl rfl rfl trivial ?_
    refine s0 612 5 rfl rfl rfl rfl rfl (by first | trivial | omega) ?_
    refine e1 620 rfl ?_
    refine keep [0, 5] rfl ?_
    refine r0 ?_
    refine s1 312 620 1 rfl rfl rfl rfl rfl rfl trivial ?_
    refine s1 313 628 2 rfl rfl rfl rfl rfl rfl trivial ?_
    refine s1 314 636 3 rfl rfl rfl rfl rfl rfl trivial ?_
    refine s1 315 644 4 rfl rfl rfl rfl rfl rfl trivial ?_
    refine s1 316 652 5 rfl rfl rfl rfl rfl rfl trivial ?_
    refine s1 317 660 6 rfl rfl rfl rfl rfl rfl (by first | trivial | omega) ?_
    refine s1 318 668 7 rfl rfl rfl rfl rfl rfl (by first | trivial | omega) ?_
    refine s1 319 676 8 rfl rfl rfl rfl rfl rfl (by first | trivial | omega) ?_
    refine s1 320 684 9 rfl rfl rfl rfl rfl rfl trivial ?_
    refine s1 321 692 10 rfl rfl rfl rfl rfl rfl trivial ?_
    refine s0 700 11 rfl rfl rfl rfl rfl (by first | trivial | omega) ?_
    refine e1 708 rfl ?_
    have hq := hp.symm.trans (rone_go hc0 (rx_9 (by omega)))
    exact out0 (π := [0, 1, 2, 3, 4]) (hout := [some (wkrB 4 C p.1), some (.map (mapL p.1.L)), none, some (intsB p.2), some (intsB p.1.told)]) Tryd.results23 rfl rfl ⟨(by rw [hq]; rfl), (by rw [hq]; rfl), (by rw [hq]; rfl), (by rw [hq]; rfl), trivial⟩ ⟨rfl, rfl⟩
  try simp only [cs, ne_eq] at hc39
  refine r1 ?_
  refine s1 244 484 1 rfl rfl rfl rfl rfl rfl (by first | trivial | omega) ?_
  refine s1 243 492 2 rfl rfl rfl rfl rfl rfl trivial ?_
  refine e1 500 rfl ?_
  refine keep [0, 1, 4, 5, 6, 44, 243] rfl ?_
  refine q1 rfl (fun hc41 => ?_) (fun hc41 => ?_)
  · skip
    try simp only [cs, ne_eq] at hc41
    refine r0 ?_
    refine s1 245 500 1 rfl rfl rfl rfl rfl rfl trivial ?_
    refine s1 246 508 2 rfl rfl rfl rfl rfl rfl (by first | trivial | omega) ?_
    refine s1 5 516 3 rfl rfl rfl rfl rfl rfl trivial ?_
    refine e1 524 rfl ?_
    refine bn ?_
    refine tn ?_
    refine r1 ?_
    refine s1 308 524 1 rfl rfl rfl rfl rfl rfl trivial ?_
    refine s1 309 532 2 rfl rfl rfl rfl rfl rfl trivial ?_
    refine s1 310 540 3 rfl rfl rfl rfl rfl rfl trivial ?_
    refine s1 311 548 4 rfl rfl rfl rfl rfl rfl trivial ?_
    refine s0 556 5 rfl rfl rfl rfl rfl (by first | trivial | omega) ?_
    refine e1 564 rfl ?_
    refine keep [0, 5] rfl ?_
    refine r0 ?_
    refine s1 312 564 1 rfl rfl rfl rfl rfl rfl trivial ?_
    refine s1 313 572 2 rfl rfl rfl rfl rfl rfl trivial ?_
    refine s1 314 580 3 rfl rfl rfl rfl rfl rfl trivial ?_
    refine s1 315 588 4 rfl rfl rfl rfl rfl rfl trivial ?_
    refine s1 316 596 5 rfl rfl rfl rfl rfl rfl trivial ?_
    refine s1 317 604 6 rfl rfl rfl rfl rfl rfl (by first | trivial | omega) ?_
    refine s1 318 612 7 rfl rfl rfl rfl rfl rfl (by first | trivial | omega) ?_
    refine s1 319 620 8 rfl rfl rfl rfl rfl rfl (by first | trivial | omega) ?_
    refine s1 320 628 9 rfl rfl rfl rfl rfl rfl trivial ?_
    refine s1 321 636 10 rfl rfl rfl rfl rfl rfl trivial ?_
    refine s0 644 11 rfl rfl rfl rfl rfl (by first | trivial | omega) ?_
    refine e1 652 rfl ?_
    have hq := hp.symm.trans (rone_go hc0 (rx_10 (by omega)))
    exact out0 (π := [0, 1, 2, 3, 4]) (hout := [some (wkrB 4 C p.1), some (.map (mapL p.1.L)), none, some (intsB p.2), some (intsB p.1.told)]) Tryd.results23 rfl rfl ⟨(by rw [hq]; rfl), (by rw [hq]; rfl), (by rw [hq]; rfl), (by rw [hq]; rfl), trivial⟩ ⟨rfl, rfl⟩
  try simp only [cs, ne_eq] at hc41
  refine r1 ?_
  refine s1 248 500 1 rfl rfl rfl rfl rfl rfl (by first | trivial | omega) ?_
  refine s1 247 508 2 rfl rfl rfl rfl rfl rfl trivial ?_
  refine e1 516 rfl ?_
  refine keep [0, 1, 4, 5, 6, 44, 247] rfl ?_
  refine q1 rfl (fun hc43 => ?_) (fun hc43 => ?_)
  · skip
    try simp only [cs, ne_eq] at hc43
    refine rd1 rfl ?_
    refine d1 249 516 1 rfl rfl rfl rfl rfl rfl trivial ?_
    refine d1 250 524 2 rfl rfl rfl rfl rfl rfl trivial ?_
    refine d1 251 532 3 rfl rfl rfl rfl rfl rfl trivial ?_
    refine d1 252 540 4 rfl rfl rfl rfl rfl rfl (by first | trivial | omega) ?_
    refine d1 253 548 5 rfl rfl rfl rfl rfl rfl trivial ?_
    refine d1 254 556 6 rfl rfl rfl rfl rfl rfl (by first | trivial | omega) ?_
    refine dLook (u := SV.i (lk w.L (C.getD w.pc.toNat default).a)) (lkD w.L (C.getD w.pc.toNat default).a) (mfind_L _ _) 255 564 7 rfl rfl rfl rfl rfl rfl rfl rfl rfl rfl rfl rfl rfl rfl (lk_hd _ _) ?_
    refine d1 256 572 8 rfl rfl rfl rfl rfl rfl (by first | trivial | omega) ?_
    refine de1 580 rfl (by kernel_rfl) ?_
    refine keep [0, 4, 5, 256] rfl ?_
    refine q1 rfl (fun hc44 => ?_) (fun hc44 => ?_)
    · skip
      try simp only [cs, ne_eq] at hc44
      refine r0 ?_
      refine s1 257 580 1 rfl rfl rfl rfl rfl rfl trivial ?_
      refine s1 258 588 2 rfl rfl rfl rfl rfl rfl (by first | trivial | omega) ?_
      refine s1 5 596 3 rfl rfl rfl rfl rfl rfl trivial ?_
      refine e1 604 rfl ?_
      refine bn ?_
      refine tn ?_
      refine r1 ?_
      refine s1 308 604 1 rfl rfl rfl rfl rfl rfl trivial ?_
      refine s1 309 612 2 rfl rfl rfl rfl rfl rfl trivial ?_
      refine s1 310 620 3 rfl rfl rfl rfl rfl rfl trivial ?_
      refine s1 311 628 4 rfl rfl rfl rfl rfl rfl trivial ?_
      refine s0 636 5 rfl rfl rfl rfl rfl (by first | trivial | omega) ?_
      refine e1 644 rfl ?_
      refine keep [0, 5] rfl ?_
      refine r0 ?_
      refine s1 312 644 1 rfl rfl rfl rfl rfl rfl trivial ?_
      refine s1 313 652 2 rfl rfl rfl rfl rfl rfl trivial ?_
      refine s1 314 660 3 rfl rfl rfl rfl rfl rfl trivial ?_
      refine s1 315 668 4 rfl rfl rfl rfl rfl rfl trivial ?_
      refine s1 316 676 5 rfl rfl rfl rfl rfl rfl trivial ?_
      refine s1 317 684 6 rfl rfl rfl rfl rfl rfl (by first | trivial | omega) ?_
      refine s1 318 692 7 rfl rfl rfl rfl rfl rfl (by first | trivial | omega) ?_
      refine s1 319 700 8 rfl rfl rfl rfl rfl rfl (by first | trivial | omega) ?_
      refine s1 320 708 9 rfl rfl rfl rfl rfl rfl trivial ?_
      refine s1 321 716 10 rfl rfl rfl rfl rfl rfl trivial ?_
      refine s0 724 11 rfl rfl rfl rfl rfl (by first | trivial | omega) ?_
      refine e1 732 rfl ?_
      have hq := hp.symm.trans (rone_go hc0 (rx_11y (by omega) hc44))
      exact out0 (π := [0, 1, 2, 3, 4]) (hout := [some (wkrB 4 C p.1), some (.map (mapL p.1.L)), none, some (intsB p.2), some (intsB p.1.told)]) Tryd.results23 rfl rfl ⟨(by rw [hq]; rfl), (by rw [hq]; rfl), (by rw [hq]; rfl), (by rw [hq]; rfl), trivial⟩ ⟨rfl, rfl⟩
    try simp only [cs, ne_eq] at hc44
    refine W_skip ?_
    refine bn ?_
    refine tn ?_
    refine r1 ?_
    refine s1 308 580 1 rfl rfl rfl rfl rfl rfl trivial ?_
    refine s1 309 588 2 rfl rfl rfl rfl rfl rfl trivial ?_
    refine s1 310 596 3 rfl rfl rfl rfl rfl rfl trivial ?_
    refine s1 311 604 4 rfl rfl rfl rfl rfl rfl trivial ?_
    refine s0 612 5 rfl rfl rfl rfl rfl (by first | trivial | omega) ?_
    refine e1 620 rfl ?_
    refine keep [0, 5] rfl ?_
    refine r0 ?_
    refine s1 312 620 1 rfl rfl rfl rfl rfl rfl trivial ?_
    refine s1 313 628 2 rfl rfl rfl rfl rfl rfl trivial ?_
    refine s1 314 636 3 rfl rfl rfl rfl rfl rfl trivial ?_
    refine s1 315 644 4 rfl rfl rfl rfl rfl rfl trivial ?_
    refine s1 316 652 5 rfl rfl rfl rfl rfl rfl trivial ?_
    refine s1 317 660 6 rfl rfl rfl rfl rfl rfl (by first | trivial | omega) ?_
    refine s1 318 668 7 rfl rfl rfl rfl rfl rfl (by first | trivial | omega) ?_
    refine s1 319 676 8 rfl rfl rfl rfl rfl rfl (by first | trivial | omega) ?_
    refine s1 320 684 9 rfl rfl rfl rfl rfl rfl trivial ?_
    refine s1 321 692 10 rfl rfl rfl rfl rfl rfl trivial ?_
    refine s0 700 11 rfl rfl rfl rfl rfl (by first | trivial | omega) ?_
    refine e1 708 rfl ?_
    have hq := hp.symm.trans (rone_go hc0 (rx_11n (by omega) (by simpa using hc44)))
    exact out0 (π := [0, 1, 2, 3, 4]) (hout := [some (wkrB 4 C p.1), some (.map (mapL p.1.L)), none, some (intsB p.2), some (intsB p.1.told)]) Tryd.results23 rfl rfl ⟨(by rw [hq]; rfl), (by rw [hq]; rfl), (by rw [hq]; rfl), (by rw [hq]; rfl), trivial⟩ ⟨rfl, rfl⟩
  try simp only [cs, ne_eq] at hc43
  refine r1 ?_
  refine s1 260 516 1 rfl rfl rfl rfl rfl rfl (by first | trivial | omega) ?_
  refine s1 259 524 2 rfl rfl rfl rfl rfl rfl trivial ?_
  refine e1 532 rfl ?_
  refine keep [0, 1, 4, 5, 6, 44, 259] rfl ?_
  refine q1 rfl (fun hc46 => ?_) (fun hc46 => ?_)
  · skip
    try simp only [cs, ne_eq] at hc46
    refine rd1 rfl ?_
    refine d1 261 532 1 rfl rfl rfl rfl rfl rfl trivial ?_
    refine d1 262 540 2 rfl rfl rfl rfl rfl rfl trivial ?_
    refine d1 263 548 3 rfl rfl rfl rfl rfl rfl trivial ?_
    refine d1 264 556 4 rfl rfl rfl rfl rfl rfl (by first | trivial | omega) ?_
    refine d1 265 564 5 rfl rfl rfl rfl rfl rfl trivial ?_
    refine d1 266 572 6 rfl rfl rfl rfl rfl rfl (by first | trivial | omega) ?_
    refine dLook (u := SV.i (lk w.L (C.getD w.pc.toNat default).a)) (lkD w.L (C.getD w.pc.toNat default).a) (mfind_L _ _) 267 580 7 rfl rfl rfl rfl rfl rfl rfl rfl rfl rfl rfl rfl rfl rfl (lk_hd _ _) ?_
    refine d1 268 588 8 rfl rfl rfl rfl rfl rfl (by first | trivial | omega) ?_
    refine de1 596 rfl (by kernel_rfl) ?_
    refine keep [0, 4, 5, 268] rfl ?_
    refine q1 rfl (fun hc47 => ?_) (fun hc47 => ?_)
    · skip
      try simp only [cs, ne_eq] at hc47
      refine r0 ?_
      refine s1 269 596 1 rfl rfl rfl rfl rfl rfl trivial ?_
      refine s1 270 604 2 rfl rfl rfl rfl rfl rfl (by first | trivial | omega) ?_
      refine s1 5 612 3 rfl rfl rfl rfl rfl rfl trivial ?_
      refine e1 620 rfl ?_
      refine bn ?_
      refine tn ?_
      refine r1 ?_
      refine s1 308 620 1 rfl rfl rfl rfl rfl rfl trivial ?_
      refine s1 309 628 2 rfl rfl rfl rfl rfl rfl trivial ?_
      refine s1 310 636 3 rfl rfl rfl rfl rfl rfl trivial ?_
      refine s1 311 644 4 rfl rfl rfl rfl rfl rfl trivial ?_
      refine s0 652 5 rfl rfl rfl rfl rfl (by first | trivial | omega) ?_
      refine e1 660 rfl ?_
      refine keep [0, 5] rfl ?_
      refine r0 ?_
      refine s1 312 660 1 rfl rfl rfl rfl rfl rfl trivial ?_
      refine s1 313 668 2 rfl rfl rfl rfl rfl rfl trivial ?_
      refine s1 314 676 3 rfl rfl rfl rfl rfl rfl trivial ?_
      refine s1 315 684 4 rfl rfl rfl rfl rfl rfl trivial ?_
      refine s1 316 692 5 rfl rfl rfl rfl rfl rfl trivial ?_
      refine s1 317 700 6 rfl rfl rfl rfl rfl rfl (by first | trivial | omega) ?_
      refine s1 318 708 7 rfl rfl rfl rfl rfl rfl (by first | trivial | omega) ?_
      refine s1 319 716 8 rfl rfl rfl rfl rfl rfl (by first | trivial | omega) ?_
      refine s1 320 724 9 rfl rfl rfl rfl rfl rfl trivial ?_
      refine s1 321 732 10 rfl rfl rfl rfl rfl rfl trivial ?_
      refine s0 740 11 rfl rfl rfl rfl rfl (by first | trivial | omega) ?_
      refine e1 748 rfl ?_
      have hq := hp.symm.trans (rone_go hc0 (rx_12y (by omega) hc47))
      exact out0 (π := [0, 1, 2, 3, 4]) (hout := [some (wkrB 4 C p.1), some (.map (mapL p.1.L)), none, some (intsB p.2), some (intsB p.1.told)]) Tryd.results23 rfl rfl ⟨(by rw [hq]; rfl), (by rw [hq]; rfl), (by rw [hq]; rfl), (by rw [hq]; rfl), trivial⟩ ⟨rfl, rfl⟩
    try simp only [cs, ne_eq] at hc47
    refine W_skip ?_
    refine bn ?_
    refine tn ?_
    refine r1 ?_
    refine s1 308 596 1 rfl rfl rfl rfl rfl rfl trivial ?_
    refine s1 309 604 2 rfl rfl rfl rfl rfl rfl trivial ?_
    refine s1 310 612 3 rfl rfl rfl rfl rfl rfl trivial ?_
    refine s1 311 620 4 rfl rfl rfl rfl rfl rfl trivial ?_
    refine s0 628 5 rfl rfl rfl rfl rfl (by first | trivial | omega) ?_
    refine e1 636 rfl ?_
    refine keep [0, 5] rfl ?_
    refine r0 ?_
    refine s1 312 636 1 rfl rfl rfl rfl rfl rfl trivial ?_
    refine s1 313 644 2 rfl rfl rfl rfl rfl rfl trivial ?_
    refine s1 314 652 3 rfl rfl rfl rfl rfl rfl trivial ?_
    refine s1 315 660 4 rfl rfl rfl rfl rfl rfl trivial ?_
    refine s1 316 668 5 rfl rfl rfl rfl rfl rfl trivial ?_
    refine s1 317 676 6 rfl rfl rfl rfl rfl rfl (by first | trivial | omega) ?_
    refine s1 318 684 7 rfl rfl rfl rfl rfl rfl (by first | trivial | omega) ?_
    refine s1 319 692 8 rfl rfl rfl rfl rfl rfl (by first | trivial | omega) ?_
    refine s1 320 700 9 rfl rfl rfl rfl rfl rfl trivial ?_
    refine s1 321 708 10 rfl rfl rfl rfl rfl rfl trivial ?_
    refine s0 716 11 rfl rfl rfl rfl rfl (by first | trivial | omega) ?_
    refine e1 724 rfl ?_
    have hq := hp.symm.trans (rone_go hc0 (rx_12n (by omega) hc47))
    exact out0 (π := [0, 1, 2, 3, 4]) (hout := [some (wkrB 4 C p.1), some (.map (mapL p.1.L)), none, some (intsB p.2), some (intsB p.1.told)]) Tryd.results23 rfl rfl ⟨(by rw [hq]; rfl), (by rw [hq]; rfl), (by rw [hq]; rfl), (by rw [hq]; rfl), trivial⟩ ⟨rfl, rfl⟩
  try simp only [cs, ne_eq] at hc46
  refine r1 ?_
  refine s1 272 532 1 rfl rfl rfl rfl rfl rfl (by first | trivial | omega) ?_
  refine s1 271 540 2 rfl rfl rfl rfl rfl rfl trivial ?_
  refine e1 548 rfl ?_
  refine keep [0, 1, 4, 5, 6, 44, 271] rfl ?_
  refine q1 rfl (fun hc49 => ?_) (fun hc49 => ?_)
  · skip
    try simp only [cs, ne_eq] at hc49
    refine W_seq ?_
    refine r1 ?_
    refine s1 273 548 1 rfl rfl rfl rfl rfl rfl trivial ?_
    refine s1 274 556 2 rfl rfl rfl rfl rfl rfl trivial ?_
    refine s1 275 564 3 rfl rfl rfl rfl rfl rfl trivial ?_
    refine s1 276 572 4 rfl rfl rfl rfl rfl rfl (by first | trivial | omega) ?_
    refine s1 277 580 5 rfl rfl rfl rfl rfl rfl (by first | trivial | omega) ?_
    refine s1 278 588 6 rfl rfl rfl rfl rfl rfl (by first | trivial | omega) ?_
    refine e1 596 rfl ?_
    refine keep [0, 4, 5, 278] rfl ?_
    refine q1 rfl (fun hc50 => ?_) (fun hc50 => ?_)
    · skip
      try simp only [cs, ne_eq] at hc50
      refine r1 ?_
      refine s1 279 596 1 rfl rfl rfl rfl rfl rfl trivial ?_
      refine s1 280 604 2 rfl rfl rfl rfl rfl rfl trivial ?_
      refine s1 281 612 3 rfl rfl rfl rfl rfl rfl trivial ?_
      refine s0 620 4 rfl rfl rfl rfl rfl (by first | trivial | omega) ?_
      refine e1 628 rfl ?_
      refine keep [0] rfl ?_
      refine r1 ?_
      refine s1 282 628 1 rfl rfl rfl rfl rfl rfl trivial ?_
      refine s1 283 636 2 rfl rfl rfl rfl rfl rfl trivial ?_
      refine s1 284 644 3 rfl rfl rfl rfl rfl rfl trivial ?_
      refine s0 652 4 rfl rfl rfl rfl rfl (by first | trivial | omega) ?_
      refine e1 660 rfl ?_
      refine keep [] rfl ?_
      refine W_ret ?_
      refine tr ?_
      refine br ?_
      refine tr ?_
      have hq := hp.symm.trans (rone_go hc0 (rx_16f (by omega) (by omega)))
      exact out0 (π := [0, 1, 2, 3, 4]) (hout := [some (wkrB 4 C p.1), some (.map (mapL p.1.L)), none, some (intsB p.2), some (intsB p.1.told)]) Tryd.results23 rfl rfl ⟨(by rw [hq]; rfl), (by rw [hq]; rfl), (by rw [hq]; rfl), (by rw [hq]; rfl), trivial⟩ ⟨rfl, rfl⟩
    try simp only [cs, ne_eq] at hc50
    refine W_skip ?_
    refine tn ?_
    refine rd0 rfl ?_
    refine d1 285 596 1 rfl rfl rfl rfl rfl rfl trivial ?_
    refine d1 286 604 2 rfl rfl rfl rfl rfl rfl trivial ?_
    refine d1 287 612 3 rfl rfl rfl rfl rfl rfl trivial ?_
    refine d1 288 620 4 rfl rfl rfl rfl rfl rfl trivial ?_
    refine d1 289 628 5 rfl rfl rfl rfl rfl rfl (by first | trivial | omega) ?_
    refine d1 290 636 6 rfl rfl rfl rfl rfl rfl trivial ?_
    refine d1 291 644 7 rfl rfl rfl rfl rfl rfl trivial ?_
    refine d1 292 652 8 rfl rfl rfl rfl rfl rfl trivial ?_
    refine d1 293 660 9 rfl rfl rfl rfl rfl rfl (by first | trivial | omega) ?_
    refine d1 294 668 10 rfl rfl rfl rfl rfl rfl trivial ?_
    refine d1 295 676 11 rfl rfl rfl rfl rfl rfl (by first | trivial | omega) ?_
    refine dLook (u := SV.i (lk w.L (C.getD w.pc.toNat default).a)) (lkD w.L (C.getD w.pc.toNat default).a) (mfind_L _ _) 296 684 12 rfl rfl rfl rfl rfl rfl rfl rfl rfl rfl rfl rfl rfl rfl (lk_hd _ _) ?_
    refine d1 297 692 13 rfl rfl rfl rfl rfl rfl trivial ?_
    refine d1 298 700 14 rfl rfl rfl rfl rfl rfl ⟨Nat.le_refl _, trivial, (by show (w.told.length + 1) * 8 ≤ 140737488355328; omega), (by simp only [maxLen]; omega)⟩ ?_
    refine d1 299 708 15 rfl rfl rfl rfl rfl rfl trivial ?_
    refine d1 300 716 16 rfl rfl rfl rfl rfl rfl trivial ?_
    refine d0 724 17 rfl rfl rfl rfl rfl (by first | trivial | omega) ?_
    refine de1 732 rfl (by kernel_rfl) ?_
    refine bn ?_
    refine tn ?_
    refine rowsc 700 (w.told ++ [lk w.L (C.getD w.pc.toNat default).a]).length (intsF (w.told ++ [lk w.L (C.getD w.pc.toNat default).a])) rfl (by simp) (fun i c hi hc => ints_cat w.told _ i c hi hc) ?_
    refine chval 0 (.cells 58 6 [insV C, .map 1, SV.i w.pc, .sl 700 0 (w.told ++ [lk w.L (C.getD w.pc.toNat default).a]).length, SV.i w.e, SV.b w.ov]) rfl (by rw [List.length_append]; rfl) ?_
    refine r1 ?_
    refine s1 308 732 1 rfl rfl rfl rfl rfl rfl trivial ?_
    refine s1 309 740 2 rfl rfl rfl rfl rfl rfl trivial ?_
    refine s1 310 748 3 rfl rfl rfl rfl rfl rfl trivial ?_
    refine s1 311 756 4 rfl rfl rfl rfl rfl rfl trivial ?_
    refine s0 764 5 rfl rfl rfl rfl rfl (by first | trivial | omega) ?_
    refine e1 772 rfl ?_
    refine keep [0, 5] rfl ?_
    refine r0 ?_
    refine s1 312 772 1 rfl rfl rfl rfl rfl rfl trivial ?_
    refine s1 313 780 2 rfl rfl rfl rfl rfl rfl trivial ?_
    refine s1 314 788 3 rfl rfl rfl rfl rfl rfl trivial ?_
    refine s1 315 796 4 rfl rfl rfl rfl rfl rfl trivial ?_
    refine s1 316 804 5 rfl rfl rfl rfl rfl rfl trivial ?_
    refine s1 317 812 6 rfl rfl rfl rfl rfl rfl (by first | trivial | omega) ?_
    refine s1 318 820 7 rfl rfl rfl rfl rfl rfl (by first | trivial | omega) ?_
    refine s1 319 828 8 rfl rfl rfl rfl rfl rfl (by first | trivial | omega) ?_
    refine s1 320 836 9 rfl rfl rfl rfl rfl rfl trivial ?_
    refine s1 321 844 10 rfl rfl rfl rfl rfl rfl trivial ?_
    refine s0 852 11 rfl rfl rfl rfl rfl (by first | trivial | omega) ?_
    refine e1 860 rfl ?_
    have hq := hp.symm.trans (rone_go hc0 (rx_16t (by omega) (by omega)))
    exact out0 (π := [0, 1, 2, 3, 700]) (hout := [some (wkrB 4 C p.1), some (.map (mapL p.1.L)), none, some (intsB p.2), some (intsB p.1.told)]) Tryd.results23 rfl rfl ⟨(by rw [hq]; rfl), (by rw [hq]; rfl), (by rw [hq]; rfl), (by rw [hq]; rfl), trivial⟩ ⟨rfl, rfl⟩
  try simp only [cs, ne_eq] at hc49
  refine r1 ?_
  refine s1 302 548 1 rfl rfl rfl rfl rfl rfl (by first | trivial | omega) ?_
  refine s1 301 556 2 rfl rfl rfl rfl rfl rfl trivial ?_
  refine e1 564 rfl ?_
  refine keep [0, 1, 4, 5, 6, 301] rfl ?_
  refine q1 rfl (fun hc54 => ?_) (fun hc54 => ?_)
  · skip
    try simp only [cs, ne_eq] at hc54
    refine r0 ?_
    refine s1 303 564 1 rfl rfl rfl rfl rfl rfl trivial ?_
    refine s1 304 572 2 rfl rfl rfl rfl rfl rfl trivial ?_
    refine s1 305 580 3 rfl rfl rfl rfl rfl rfl trivial ?_
    refine s1 306 588 4 rfl rfl rfl rfl rfl rfl (by first | trivial | omega) ?_
    refine s1 307 596 5 rfl rfl rfl rfl rfl rfl (by first | trivial | omega) ?_
    refine s1 5 604 6 rfl rfl rfl rfl rfl rfl trivial ?_
    refine e1 612 rfl ?_
    refine bn ?_
    refine tn ?_
    refine r1 ?_
    refine s1 308 612 1 rfl rfl rfl rfl rfl rfl trivial ?_
    refine s1 309 620 2 rfl rfl rfl rfl rfl rfl trivial ?_
    refine s1 310 628 3 rfl rfl rfl rfl rfl rfl trivial ?_
    refine s1 311 636 4 rfl rfl rfl rfl rfl rfl trivial ?_
    refine s0 644 5 rfl rfl rfl rfl rfl (by first | trivial | omega) ?_
    refine e1 652 rfl ?_
    refine keep [0, 5] rfl ?_
    refine r0 ?_
    refine s1 312 652 1 rfl rfl rfl rfl rfl rfl trivial ?_
    refine s1 313 660 2 rfl rfl rfl rfl rfl rfl trivial ?_
    refine s1 314 668 3 rfl rfl rfl rfl rfl rfl trivial ?_
    refine s1 315 676 4 rfl rfl rfl rfl rfl rfl trivial ?_
    refine s1 316 684 5 rfl rfl rfl rfl rfl rfl trivial ?_
    refine s1 317 692 6 rfl rfl rfl rfl rfl rfl (by first | trivial | omega) ?_
    refine s1 318 700 7 rfl rfl rfl rfl rfl rfl (by first | trivial | omega) ?_
    refine s1 319 708 8 rfl rfl rfl rfl rfl rfl (by first | trivial | omega) ?_
    refine s1 320 716 9 rfl rfl rfl rfl rfl rfl trivial ?_
    refine s1 321 724 10 rfl rfl rfl rfl rfl rfl trivial ?_
    refine s0 732 11 rfl rfl rfl rfl rfl (by first | trivial | omega) ?_
    refine e1 740 rfl ?_
    have hq := hp.symm.trans (rone_go hc0 (rx_17 (by omega)))
    exact out0 (π := [0, 1, 2, 3, 4]) (hout := [some (wkrB 4 C p.1), some (.map (mapL p.1.L)), none, some (intsB p.2), some (intsB p.1.told)]) Tryd.results23 rfl rfl ⟨(by rw [hq]; rfl), (by rw [hq]; rfl), (by rw [hq]; rfl), (by rw [hq]; rfl), trivial⟩ ⟨rfl, rfl⟩
  try simp only [cs, ne_eq] at hc54
  refine r1 ?_
  refine s1 45 564 1 rfl rfl rfl rfl rfl rfl trivial ?_
  refine s1 46 572 2 rfl rfl rfl rfl rfl rfl trivial ?_
  refine s1 47 580 3 rfl rfl rfl rfl rfl rfl (by first | trivial | omega) ?_
  refine s1 48 588 4 rfl rfl rfl rfl rfl rfl (by first | trivial | omega) ?_
  refine val 48 (SV.i (wrp (lk w.L (C.getD w.pc.toNat default).b + (C.getD w.pc.toNat default).c))) rfl rfl ?_
  refine s1 9 596 5 rfl rfl rfl rfl rfl rfl trivial ?_
  refine e1 604 rfl ?_
  refine keep [0, 1, 4, 5, 9] rfl ?_
  refine W_seq ?_
  refine r1 ?_
  refine s1 49 604 1 rfl rfl rfl rfl rfl rfl trivial ?_
  refine s1 50 612 2 rfl rfl rfl rfl rfl rfl (by first | trivial | omega) ?_
  refine s1 51 620 3 rfl rfl rfl rfl rfl rfl trivial ?_
  refine ask 51 rfl (fun hg8_51 => ?_) (fun hg8_51 => ?_)
  · skip
    try simp only [cs, ne_eq] at hg8_51
    refine g0 2 false 51 52 4 rfl rfl rfl rfl rfl rfl ?_
    refine g0 2 false 51 53 5 rfl rfl rfl rfl rfl rfl ?_
    refine g0 2 false 51 54 6 rfl rfl rfl rfl rfl rfl ?_
    refine g0 2 false 51 55 7 rfl rfl rfl rfl rfl rfl ?_
    refine s1 56 660 8 rfl rfl rfl rfl rfl rfl trivial ?_
    refine e1 668 rfl ?_
    refine keep [0, 1, 4, 5, 9, 56] rfl ?_
    refine q1 rfl (fun hc8 => ?_) (fun hc8 => ?_)
    · skip
      try simp only [cs, ne_eq] at hc8
      refine r1 ?_
      refine s1 57 668 1 rfl rfl rfl rfl rfl rfl trivial ?_
      refine s1 58 676 2 rfl rfl rfl rfl rfl rfl trivial ?_
      refine s1 59 684 3 rfl rfl rfl rfl rfl rfl trivial ?_
      refine s0 692 4 rfl rfl rfl rfl rfl (by first | trivial | omega) ?_
      refine e1 700 rfl ?_
      refine keep [0] rfl ?_
      refine r1 ?_
      refine s1 60 700 1 rfl rfl rfl rfl rfl rfl trivial ?_
      refine s1 61 708 2 rfl rfl rfl rfl rfl rfl trivial ?_
      refine s1 62 716 3 rfl rfl rfl rfl rfl rfl trivial ?_
      refine s0 724 4 rfl rfl rfl rfl rfl (by first | trivial | omega) ?_
      refine e1 732 rfl ?_
      refine keep [] rfl ?_
      refine W_ret ?_
      refine tr ?_
      refine br ?_
      refine tr ?_
      have hq := hp.symm.trans (rone_go hc0 (rx_far (by omega) (by omega)))
      exact out0 (π := [0, 1, 2, 3, 4]) (hout := [some (wkrB 4 C p.1), some (.map (mapL p.1.L)), none, some (intsB p.2), some (intsB p.1.told)]) Tryd.results23 rfl rfl ⟨(by rw [hq]; rfl), (by rw [hq]; rfl), (by rw [hq]; rfl), (by rw [hq]; rfl), trivial⟩ ⟨rfl, rfl⟩
    exact absurd hc8 (by decide)
  try simp only [cs, ne_eq] at hg8_51
  refine g1 2 false 51 52 4 rfl rfl rfl rfl rfl ?_
  refine s1 52 628 4 rfl rfl rfl rfl rfl rfl trivial ?_
  refine g1 2 false 51 53 5 rfl rfl rfl rfl rfl ?_
  refine s1 53 636 5 rfl rfl rfl rfl rfl rfl trivial ?_
  refine g1 2 false 51 54 6 rfl rfl rfl rfl rfl ?_
  refine s1 54 644 6 rfl rfl rfl rfl rfl rfl (by first | trivial | omega) ?_
  refine g1 2 false 51 55 7 rfl rfl rfl rfl rfl ?_
  refine s1 55 652 7 rfl rfl rfl rfl rfl rfl (by first | trivial | omega) ?_
  refine s1 56 660 8 rfl rfl rfl rfl rfl rfl trivial ?_
  refine e1 668 rfl ?_
  refine keep [0, 1, 4, 5, 9, 56] rfl ?_
  refine q1 rfl (fun hc8 => ?_) (fun hc8 => ?_)
  · skip
    try simp only [cs, ne_eq] at hc8
    refine r1 ?_
    refine s1 57 668 1 rfl rfl rfl rfl rfl rfl trivial ?_
    refine s1 58 676 2 rfl rfl rfl rfl rfl rfl trivial ?_
    refine s1 59 684 3 rfl rfl rfl rfl rfl rfl trivial ?_
    refine s0 692 4 rfl rfl rfl rfl rfl (by first | trivial | omega) ?_
    refine e1 700 rfl ?_
    refine keep [0] rfl ?_
    refine r1 ?_
    refine s1 60 700 1 rfl rfl rfl rfl rfl rfl trivial ?_
    refine s1 61 708 2 rfl rfl rfl rfl rfl rfl trivial ?_
    refine s1 62 716 3 rfl rfl rfl rfl rfl rfl trivial ?_
    refine s0 724 4 rfl rfl rfl rfl rfl (by first | trivial | omega) ?_
    refine e1 732 rfl ?_
    refine keep [] rfl ?_
    refine W_ret ?_
    refine tr ?_
    refine br ?_
    refine tr ?_
    have hq := hp.symm.trans (rone_go hc0 (rx_far (by omega) (by omega)))
    exact out0 (π := [0, 1, 2, 3, 4]) (hout := [some (wkrB 4 C p.1), some (.map (mapL p.1.L)), none, some (intsB p.2), some (intsB p.1.told)]) Tryd.results23 rfl rfl ⟨(by rw [hq]; rfl), (by rw [hq]; rfl), (by rw [hq]; rfl), (by rw [hq]; rfl), trivial⟩ ⟨rfl, rfl⟩
  try simp only [cs, ne_eq] at hc8
  refine W_skip ?_
  refine tn ?_
  refine r1 ?_
  refine s1 63 668 1 rfl rfl rfl rfl rfl rfl trivial ?_
  refine s1 64 676 2 rfl rfl rfl rfl rfl rfl (by first | trivial | omega) ?_
  refine s1 65 684 3 rfl rfl rfl rfl rfl rfl (by first | trivial | omega) ?_
  refine e1 692 rfl ?_
  refine keep [0, 1, 4, 5, 9, 65] rfl ?_
  refine q1 rfl (fun hc11 => ?_) (fun hc11 => ?_)
  · skip
    try simp only [cs, ne_eq] at hc11
    refine rd0 rfl ?_
    refine d1 66 692 1 rfl rfl rfl rfl rfl rfl trivial ?_
    refine d1 67 700 2 rfl rfl rfl rfl rfl rfl trivial ?_
    refine d1 68 708 3 rfl rfl rfl rfl rfl rfl trivial ?_
    refine d1 69 716 4 rfl rfl rfl rfl rfl rfl (by first | trivial | omega) ?_
    refine d1 70 724 5 rfl rfl rfl rfl rfl rfl trivial ?_
    refine d1 71 732 6 rfl rfl rfl rfl rfl rfl (by first | trivial | omega) ?_
    refine d1 72 740 7 rfl rfl rfl rfl rfl rfl trivial ?_
    refine d1 73 748 8 rfl rfl rfl rfl rfl rfl trivial ?_
    refine d1 74 756 9 rfl rfl rfl rfl rfl rfl (by omega) ?_
    refine val 74 (.ptr 3 (wrp (lk w.L (C.getD w.pc.toNat default).b + (C.getD w.pc.toNat default).c)).toNat 0) rfl (by rw [Nat.zero_add]; rfl) ?_
    refine d1 75 764 10 rfl rfl rfl rfl rfl rfl (by omega) ?_
    refine dMap ((mfind_L _ _)) 772 11 rfl rfl rfl rfl rfl rfl rfl rfl rfl rfl rfl rfl ?_
    refine de1 780 rfl (by kernel_rfl) ?_
    refine bn ?_
    refine tn ?_
    refine chval 1 _ rfl (congrArg Blk.map (mset_L _ _ _)) ?_
    refine r1 ?_
    refine s1 308 780 1 rfl rfl rfl rfl rfl rfl trivial ?_
    refine s1 309 788 2 rfl rfl rfl rfl rfl rfl trivial ?_
    refine s1 310 796 3 rfl rfl rfl rfl rfl rfl trivial ?_
    refine s1 311 804 4 rfl rfl rfl rfl rfl rfl trivial ?_
    refine s0 812 5 rfl rfl rfl rfl rfl (by first | trivial | omega) ?_
    refine e1 820 rfl ?_
    refine keep [0, 5] rfl ?_
    refine r0 ?_
    refine s1 312 820 1 rfl rfl rfl rfl rfl rfl trivial ?_
    refine s1 313 828 2 rfl rfl rfl rfl rfl rfl trivial ?_
    refine s1 314 836 3 rfl rfl rfl rfl rfl rfl trivial ?_
    refine s1 315 844 4 rfl rfl rfl rfl rfl rfl trivial ?_
    refine s1 316 852 5 rfl rfl rfl rfl rfl rfl trivial ?_
    refine s1 317 860 6 rfl rfl rfl rfl rfl rfl (by first | trivial | omega) ?_
    refine s1 318 868 7 rfl rfl rfl rfl rfl rfl (by first | trivial | omega) ?_
    refine s1 319 876 8 rfl rfl rfl rfl rfl rfl (by first | trivial | omega) ?_
    refine s1 320 884 9 rfl rfl rfl rfl rfl rfl trivial ?_
    refine s1 321 892 10 rfl rfl rfl rfl rfl rfl trivial ?_
    refine s0 900 11 rfl rfl rfl rfl rfl (by first | trivial | omega) ?_
    refine e1 908 rfl ?_
    have hq := hp.symm.trans (rone_go hc0 (rx_13 hc11 (by omega)))
    exact out0 (π := [0, 1, 2, 3, 4]) (hout := [some (wkrB 4 C p.1), some (.map (mapL p.1.L)), none, some (intsB p.2), some (intsB p.1.told)]) Tryd.results23 rfl rfl ⟨(by rw [hq]; rfl), (by rw [hq]; rfl), (by rw [hq]; rfl), (by rw [hq]; rfl), trivial⟩ ⟨rfl, rfl⟩
  try simp only [cs, ne_eq] at hc11
  refine r1 ?_
  refine s1 76 692 1 rfl rfl rfl rfl rfl rfl trivial ?_
  refine s1 77 700 2 rfl rfl rfl rfl rfl rfl (by first | trivial | omega) ?_
  refine s1 78 708 3 rfl rfl rfl rfl rfl rfl (by first | trivial | omega) ?_
  refine e1 716 rfl ?_
  refine keep [0, 1, 4, 5, 9, 78] rfl ?_
  refine q1 rfl (fun hc13 => ?_) (fun hc13 => ?_)
  · skip
    try simp only [cs, ne_eq] at hc13
    refine rd0 rfl ?_
    refine d1 79 716 1 rfl rfl rfl rfl rfl rfl trivial ?_
    refine d1 80 724 2 rfl rfl rfl rfl rfl rfl trivial ?_
    refine d1 81 732 3 rfl rfl rfl rfl rfl rfl trivial ?_
    refine d1 82 740 4 rfl rfl rfl rfl rfl rfl trivial ?_
    refine d1 83 748 5 rfl rfl rfl rfl rfl rfl trivial ?_
    refine d1 84 756 6 rfl rfl rfl rfl rfl rfl (by first | trivial | omega) ?_
    refine d1 85 764 7 rfl rfl rfl rfl rfl rfl trivial ?_
    refine d1 86 772 8 rfl rfl rfl rfl rfl rfl (by first | trivial | omega) ?_
    refine dLook (u := SV.i (lk w.L (C.getD w.pc.toNat default).a)) (lkD w.L (C.getD w.pc.toNat default).a) (mfind_L _ _) 87 780 9 rfl rfl rfl rfl rfl rfl rfl rfl rfl rfl rfl rfl rfl rfl (lk_hd _ _) ?_
    refine d1 88 788 10 rfl rfl rfl rfl rfl rfl (by omega) ?_
    refine val 88 (.ptr 3 (wrp (lk w.L (C.getD w.pc.toNat default).b + (C.getD w.pc.toNat default).c)).toNat 0) rfl (by rw [Nat.zero_add]; rfl) ?_
    refine d0 796 11 rfl rfl rfl rfl rfl (by omega) ?_
    refine de1 804 rfl (by kernel_rfl) ?_
    refine bn ?_
    refine tn ?_
    refine rowsc 3 (ws.set (wrp (lk w.L (C.getD w.pc.toNat default).b + (C.getD w.pc.toNat default).c)).toNat (lk w.L (C.getD w.pc.toNat default).a)).length (intsF (ws.set (wrp (lk w.L (C.getD w.pc.toNat default).b + (C.getD w.pc.toNat default).c)).toNat (lk w.L (C.getD w.pc.toNat default).a))) rfl (by simp) (fun i c hi hc => ints_set ws _ _ (by omega) i c (by simpa using hi) hc) ?_
    refine r1 ?_
    refine s1 308 804 1 rfl rfl rfl rfl rfl rfl trivial ?_
    refine s1 309 812 2 rfl rfl rfl rfl rfl rfl trivial ?_
    refine s1 310 820 3 rfl rfl rfl rfl rfl rfl trivial ?_
    refine s1 311 828 4 rfl rfl rfl rfl rfl rfl trivial ?_
    refine s0 836 5 rfl rfl rfl rfl rfl (by first | trivial | omega) ?_
    refine e1 844 rfl ?_
    refine keep [0, 5] rfl ?_
    refine r0 ?_
    refine s1 312 844 1 rfl rfl rfl rfl rfl rfl trivial ?_
    refine s1 313 852 2 rfl rfl rfl rfl rfl rfl trivial ?_
    refine s1 314 860 3 rfl rfl rfl rfl rfl rfl trivial ?_
    refine s1 315 868 4 rfl rfl rfl rfl rfl rfl trivial ?_
    refine s1 316 876 5 rfl rfl rfl rfl rfl rfl trivial ?_
    refine s1 317 884 6 rfl rfl rfl rfl rfl rfl (by first | trivial | omega) ?_
    refine s1 318 892 7 rfl rfl rfl rfl rfl rfl (by first | trivial | omega) ?_
    refine s1 319 900 8 rfl rfl rfl rfl rfl rfl (by first | trivial | omega) ?_
    refine s1 320 908 9 rfl rfl rfl rfl rfl rfl trivial ?_
    refine s1 321 916 10 rfl rfl rfl rfl rfl rfl trivial ?_
    refine s0 924 11 rfl rfl rfl rfl rfl (by first | trivial | omega) ?_
    refine e1 932 rfl ?_
    have hq := hp.symm.trans (rone_go hc0 (rx_14 hc13 (by omega)))
    exact out0 (π := [0, 1, 2, 3, 4]) (hout := [some (wkrB 4 C p.1), some (.map (mapL p.1.L)), none, some (intsB p.2), some (intsB p.1.told)]) Tryd.results23 rfl rfl ⟨(by rw [hq]; rfl), (by rw [hq]; rfl), (by rw [hq]; rfl), (by rw [hq]; rfl), trivial⟩ ⟨rfl, rfl⟩
  try simp only [cs, ne_eq] at hc13
  refine rd1 rfl ?_
  refine d1 89 716 1 rfl rfl rfl rfl rfl rfl trivial ?_
  refine d1 90 724 2 rfl rfl rfl rfl rfl rfl trivial ?_
  refine d1 91 732 3 rfl rfl rfl rfl rfl rfl (by omega) ?_
  refine val 91 (.ptr 3 (wrp (lk w.L (C.getD w.pc.toNat default).b + (C.getD w.pc.toNat default).c)).toNat 0) rfl (by rw [Nat.zero_add]; rfl) ?_
  refine d1 92 740 4 rfl rfl rfl rfl rfl rfl (by omega) ?_
  refine d1 93 748 5 rfl rfl rfl rfl rfl rfl trivial ?_
  refine d1 94 756 6 rfl rfl rfl rfl rfl rfl trivial ?_
  refine d1 95 764 7 rfl rfl rfl rfl rfl rfl trivial ?_
  refine d1 96 772 8 rfl rfl rfl rfl rfl rfl (by first | trivial | omega) ?_
  refine d1 97 780 9 rfl rfl rfl rfl rfl rfl trivial ?_
  refine d1 98 788 10 rfl rfl rfl rfl rfl rfl (by first | trivial | omega) ?_
  refine dLook (u := SV.i (lk w.L (C.getD w.pc.toNat default).d)) (lkD w.L (C.getD w.pc.toNat default).d) (mfind_L _ _) 99 796 11 rfl rfl rfl rfl rfl rfl rfl rfl rfl rfl rfl rfl rfl rfl (lk_hd _ _) ?_
  refine d1 100 804 12 rfl rfl rfl rfl rfl rfl (by first | trivial | omega) ?_
  refine de1 812 rfl (by kernel_rfl) ?_
  refine keep [0, 1, 4, 5, 9, 100] rfl ?_
  refine q1 rfl (fun hc15 => ?_) (fun hc15 => ?_)
  · skip
    try simp only [cs, ne_eq] at hc15
    refine rd1 rfl ?_
    refine d1 101 812 1 rfl rfl rfl rfl rfl rfl trivial ?_
    refine d1 102 820 2 rfl rfl rfl rfl rfl rfl trivial ?_
    refine d1 103 828 3 rfl rfl rfl rfl rfl rfl trivial ?_
    refine d1 104 836 4 rfl rfl rfl rfl rfl rfl trivial ?_
    refine d1 105 844 5 rfl rfl rfl rfl rfl rfl trivial ?_
    refine d1 106 852 6 rfl rfl rfl rfl rfl rfl (by first | trivial | omega) ?_
    refine d1 107 860 7 rfl rfl rfl rfl rfl rfl trivial ?_
    refine d1 108 868 8 rfl rfl rfl rfl rfl rfl (by first | trivial | omega) ?_
    refine dLook (u := SV.i (lk w.L (C.getD w.pc.toNat default).a)) (lkD w.L (C.getD w.pc.toNat default).a) (mfind_L _ _) 109 876 9 rfl rfl rfl rfl rfl rfl rfl rfl rfl rfl rfl rfl rfl rfl (lk_hd _ _) ?_
    refine d1 110 884 10 rfl rfl rfl rfl rfl rfl (by omega) ?_
    refine val 110 (.ptr 3 (wrp (lk w.L (C.getD w.pc.toNat default).b + (C.getD w.pc.toNat default).c)).toNat 0) rfl (by rw [Nat.zero_add]; rfl) ?_
    refine d0 892 11 rfl rfl rfl rfl rfl (by omega) ?_
    refine de1 900 rfl (by kernel_rfl) ?_
    refine keep [0, 4, 5] rfl ?_
    refine rowsc 3 (ws.set (wrp (lk w.L (C.getD w.pc.toNat default).b + (C.getD w.pc.toNat default).c)).toNat (lk w.L (C.getD w.pc.toNat default).a)).length (intsF (ws.set (wrp (lk w.L (C.getD w.pc.toNat default).b + (C.getD w.pc.toNat default).c)).toNat (lk w.L (C.getD w.pc.toNat default).a))) rfl (by simp) (fun i c hi hc => ints_set ws _ _ (by omega) i c (by simpa using hi) hc) ?_
    refine rd0 rfl ?_
    refine d1 111 900 1 rfl rfl rfl rfl rfl rfl trivial ?_
    refine d1 112 908 2 rfl rfl rfl rfl rfl rfl trivial ?_
    refine d1 113 916 3 rfl rfl rfl rfl rfl rfl trivial ?_
    refine d1 114 924 4 rfl rfl rfl rfl rfl rfl (by first | trivial | omega) ?_
    refine d1 115 932 5 rfl rfl rfl rfl rfl rfl trivial ?_
    refine d1 116 940 6 rfl rfl rfl rfl rfl rfl (by first | trivial | omega) ?_
    refine dMap ((mfind_L _ _)) 948 7 rfl rfl rfl rfl rfl rfl rfl rfl rfl rfl rfl rfl ?_
    refine de1 956 rfl (by kernel_rfl) ?_
    refine bn ?_
    refine tn ?_
    refine chval 1 _ rfl (congrArg Blk.map (mset_L _ _ _)) ?_
    refine r1 ?_
    refine s1 308 956 1 rfl rfl rfl rfl rfl rfl trivial ?_
    refine s1 309 964 2 rfl rfl rfl rfl rfl rfl trivial ?_
    refine s1 310 972 3 rfl rfl rfl rfl rfl rfl trivial ?_
    refine s1 311 980 4 rfl rfl rfl rfl rfl rfl trivial ?_
    refine s0 988 5 rfl rfl rfl rfl rfl (by first | trivial | omega) ?_
    refine e1 996 rfl ?_
    refine keep [0, 5] rfl ?_
    refine r0 ?_
    refine s1 312 996 1 rfl rfl rfl rfl rfl rfl trivial ?_
    refine s1 313 1004 2 rfl rfl rfl rfl rfl rfl trivial ?_
    refine s1 314 1012 3 rfl rfl rfl rfl rfl rfl trivial ?_
    refine s1 315 1020 4 rfl rfl rfl rfl rfl rfl trivial ?_
    refine s1 316 1028 5 rfl rfl rfl rfl rfl rfl trivial ?_
    refine s1 317 1036 6 rfl rfl rfl rfl rfl rfl (by first | trivial | omega) ?_
    refine s1 318 1044 7 rfl rfl rfl rfl rfl rfl (by first | trivial | omega) ?_
    refine s1 319 1052 8 rfl rfl rfl rfl rfl rfl (by first | trivial | omega) ?_
    refine s1 320 1060 9 rfl rfl rfl rfl rfl rfl trivial ?_
    refine s1 321 1068 10 rfl rfl rfl rfl rfl rfl trivial ?_
    refine s0 1076 11 rfl rfl rfl rfl rfl (by first | trivial | omega) ?_
    refine e1 1084 rfl ?_
    have hq := hp.symm.trans (rone_go hc0 (rx_15y (by omega) (by omega) hc15))
    exact out0 (π := [0, 1, 2, 3, 4]) (hout := [some (wkrB 4 C p.1), some (.map (mapL p.1.L)), none, some (intsB p.2), some (intsB p.1.told)]) Tryd.results23 rfl rfl ⟨(by rw [hq]; rfl), (by rw [hq]; rfl), (by rw [hq]; rfl), (by rw [hq]; rfl), trivial⟩ ⟨rfl, rfl⟩
  try simp only [cs, ne_eq] at hc15
  refine rd0 rfl ?_
  refine d1 117 812 1 rfl rfl rfl rfl rfl rfl trivial ?_
  refine d1 118 820 2 rfl rfl rfl rfl rfl rfl trivial ?_
  refine d1 119 828 3 rfl rfl rfl rfl rfl rfl trivial ?_
  refine d1 120 836 4 rfl rfl rfl rfl rfl rfl (by first | trivial | omega) ?_
  refine d1 121 844 5 rfl rfl rfl rfl rfl rfl trivial ?_
  refine d1 122 852 6 rfl rfl rfl rfl rfl rfl (by first | trivial | omega) ?_
  refine dMap ((mfind_L _ _)) 860 7 rfl rfl rfl rfl rfl rfl rfl rfl rfl rfl rfl rfl ?_
  refine de1 868 rfl (by kernel_rfl) ?_
  refine bn ?_
  refine tn ?_
  refine chval 1 _ rfl (congrArg Blk.map (mset_L _ _ _)) ?_
  refine r1 ?_
  refine s1 308 868 1 rfl rfl rfl rfl rfl rfl trivial ?_
  refine s1 309 876 2 rfl rfl rfl rfl rfl rfl trivial ?_
  refine s1 310 884 3 rfl rfl rfl rfl rfl rfl trivial ?_
  refine s1 311 892 4 rfl rfl rfl rfl rfl rfl trivial ?_
  refine s0 900 5 rfl rfl rfl rfl rfl (by first | trivial | omega) ?_
  refine e1 908 rfl ?_
  refine keep [0, 5] rfl ?_
  refine r0 ?_
  refine s1 312 908 1 rfl rfl rfl rfl rfl rfl trivial ?_
  refine s1 313 916 2 rfl rfl rfl rfl rfl rfl trivial ?_
  refine s1 314 924 3 rfl rfl rfl rfl rfl rfl trivial ?_
  refine s1 315 932 4 rfl rfl rfl rfl rfl rfl trivial ?_
  refine s1 316 940 5 rfl rfl rfl rfl rfl rfl trivial ?_
  refine s1 317 948 6 rfl rfl rfl rfl rfl rfl (by first | trivial | omega) ?_
  refine s1 318 956 7 rfl rfl rfl rfl rfl rfl (by first | trivial | omega) ?_
  refine s1 319 964 8 rfl rfl rfl rfl rfl rfl (by first | trivial | omega) ?_
  refine s1 320 972 9 rfl rfl rfl rfl rfl rfl trivial ?_
  refine s1 321 980 10 rfl rfl rfl rfl rfl rfl trivial ?_
  refine s0 988 11 rfl rfl rfl rfl rfl (by first | trivial | omega) ?_
  refine e1 996 rfl ?_
  have hq := hp.symm.trans (rone_go hc0 (rx_15n (by omega) (by omega) hc15))
  exact out0 (π := [0, 1, 2, 3, 4]) (hout := [some (wkrB 4 C p.1), some (.map (mapL p.1.L)), none, some (intsB p.2), some (intsB p.1.told)]) Tryd.results23 rfl rfl ⟨(by rw [hq]; rfl), (by rw [hq]; rfl), (by rw [hq]; rfl), (by rw [hq]; rfl), trivial⟩ ⟨rfl, rfl⟩

end Go.Proofs.YtdjphneoecebmaaDoor.Nice
