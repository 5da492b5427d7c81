/- run.Play with 3 threads. -/
import Derived.Test.YtnnjobmiepnedaaDoorZMPl
namespace Go.Proofs.YtnnjobmiepnedaaDoor.Nice
open Go
set_option linter.unusedVariables false
set_option linter.unusedSimpArgs false
set_option maxRecDepth 100000
set_option maxHeartbeats 4000000

theorem play_3 (q : Mach) (hq : q.ok) (hn : q.ts.length = 3) (sc : List Int) (hsc : sc.length ≤ 9223372036854775807) (R0 : PRes) (hp0 : played q sc = R0) : Spec Tryd.prog GV 20 [machS q, intsV sc] [] (fun r ho => r = SV.tup [evV R0.out, intsV R0.ws, SV.i R0.e] ∧ ho = []) := by
  refine start 161 0 Tryd.func20 rfl rfl rfl rfl ?_
  refine r1 ?_
  refine s1 2 0 1 rfl rfl rfl rfl rfl rfl trivial ?_
  refine s1 4 8 2 rfl rfl rfl rfl rfl rfl trivial ?_
  refine s1 5 16 3 rfl rfl rfl rfl rfl rfl trivial ?_
  refine s1 6 24 4 rfl rfl rfl rfl rfl rfl trivial ?_
  refine e1 32 rfl ?_
  refine keep [1, 2] rfl ?_
  refine W_seq ?_
  refine W_block ?_
  refine r1 ?_
  refine s1 17 32 1 rfl rfl rfl rfl rfl rfl (by first | trivial | omega) ?_
  refine c1 (mach_any q hq) [] [] 18 40 2 rfl rfl rfl rfl rfl rfl rfl rfl Tryd.func30 rfl rfl rfl rfl trivial rfl rfl ?_
  refine s1 19 48 3 rfl rfl rfl rfl rfl rfl trivial ?_
  refine s1 16 56 4 rfl rfl rfl rfl rfl rfl trivial ?_
  refine e1 64 rfl ?_
  refine keep [1, 2, 16] rfl ?_
  refine q1 rfl (fun hc1 => ?_) (fun hc1 => ?_)
  · skip
    try simp only [cs, ne_eq] at hc1
    refine r1 ?_
    refine s1 4 64 1 rfl rfl rfl rfl rfl rfl trivial ?_
    refine s1 5 72 2 rfl rfl rfl rfl rfl rfl trivial ?_
    refine s1 6 80 3 rfl rfl rfl rfl rfl rfl trivial ?_
    refine e1 88 rfl ?_
    refine keep [4, 5, 6] rfl ?_
    refine nilv 4 6 (evF []) rfl ?_
    refine nilv 5 1 (intsF []) rfl ?_
    refine W_ret ?_
    refine br ?_
    refine tr ?_
    have hr := hp0.symm.trans (pl_form hc1)
    exact out3 4 5 6 (evV R0.out) (intsV R0.ws) (SV.i R0.e) (π := []) (hout := []) Tryd.results20 rfl rfl rfl (by rw [hr]; rfl) (by rw [hr]; rfl) (by rw [hr]; rfl) rfl rfl trivial ⟨rfl, rfl⟩
  try simp only [cs, ne_eq] at hc1
  refine r1 ?_
  refine s1 21 64 1 rfl rfl rfl rfl rfl rfl trivial ?_
  refine s1 22 72 2 rfl rfl rfl rfl rfl rfl (by first | trivial | omega) ?_
  refine s1 23 80 3 rfl rfl rfl rfl rfl rfl (by first | trivial | omega) ?_
  refine s1 20 88 4 rfl rfl rfl rfl rfl rfl trivial ?_
  refine e1 96 rfl ?_
  refine keep [1, 2, 20] rfl ?_
  refine q1 rfl (fun hc3 => ?_) (fun hc3 => ?_)
  · skip
    try simp only [cs, ne_eq] at hc3
    refine r1 ?_
    refine s1 4 96 1 rfl rfl rfl rfl rfl rfl trivial ?_
    refine s1 5 104 2 rfl rfl rfl rfl rfl rfl trivial ?_
    refine s1 6 112 3 rfl rfl rfl rfl rfl rfl trivial ?_
    refine e1 120 rfl ?_
    refine keep [4, 5, 6] rfl ?_
    refine nilv 4 6 (evF []) rfl ?_
    refine nilv 5 1 (intsF []) rfl ?_
    refine W_ret ?_
    refine br ?_
    refine tr ?_
    have hr := hp0.symm.trans (pl_size hc1 (by omega))
    exact out3 4 5 6 (evV R0.out) (intsV R0.ws) (SV.i R0.e) (π := []) (hout := []) Tryd.results20 rfl rfl rfl (by rw [hr]; rfl) (by rw [hr]; rfl) (by rw [hr]; rfl) rfl rfl trivial ⟨rfl, rfl⟩
  try simp only [cs, ne_eq] at hc3
  refine r1 ?_
  refine s1 25 96 1 rfl rfl rfl rfl rfl rfl trivial ?_
  refine s1 26 104 2 rfl rfl rfl rfl rfl rfl trivial ?_
  refine c1 (containsI_any q sc hsc) [0] [0] 27 112 3 rfl rfl rfl rfl rfl rfl rfl rfl Tryd.func41 rfl rfl rfl rfl ⟨rfl, trivial⟩ rfl rfl ?_
  refine s1 24 120 4 rfl rfl rfl rfl rfl rfl trivial ?_
  refine e1 128 rfl ?_
  refine keep [1, 2, 24] rfl ?_
  refine q1 rfl (fun hc5 => ?_) (fun hc5 => ?_)
  · skip
    try simp only [cs, ne_eq] at hc5
    refine r1 ?_
    refine s1 4 128 1 rfl rfl rfl rfl rfl rfl trivial ?_
    refine s1 5 136 2 rfl rfl rfl rfl rfl rfl trivial ?_
    refine s1 6 144 3 rfl rfl rfl rfl rfl rfl trivial ?_
    refine e1 152 rfl ?_
    refine keep [4, 5, 6] rfl ?_
    refine nilv 4 6 (evF []) rfl ?_
    refine nilv 5 1 (intsF []) rfl ?_
    refine W_ret ?_
    refine br ?_
    refine tr ?_
    have hr := hp0.symm.trans (pl_range hc1 (by omega) hc5)
    exact out3 4 5 6 (evV R0.out) (intsV R0.ws) (SV.i R0.e) (π := []) (hout := []) Tryd.results20 rfl rfl rfl (by rw [hr]; rfl) (by rw [hr]; rfl) (by rw [hr]; rfl) rfl rfl trivial ⟨rfl, rfl⟩
  try simp only [cs, ne_eq] at hc5
  refine W_skip ?_
  refine bn ?_
  refine tn ?_
  have hM := hc1
  have hB := hc5
  have hMw := mach_ws hM
  refine r1 ?_
  refine s1 28 128 1 rfl rfl rfl rfl rfl rfl trivial ?_
  refine s1 29 136 2 rfl rfl rfl rfl rfl rfl (by first | trivial | omega) ?_
  refine c1 (clone_any q.ws (by have := mach_ws hM; omega)) [] [144] 30 144 3 rfl rfl rfl rfl rfl rfl rfl rfl Tryd.func43 rfl rfl rfl rfl trivial rfl rfl ?_
  refine s1 7 152 4 rfl rfl rfl rfl rfl rfl trivial ?_
  refine e1 160 rfl ?_
  refine keep [1, 2, 7] rfl ?_
  refine r1 ?_
  refine s1 8 160 1 rfl rfl rfl rfl rfl rfl trivial ?_
  refine e1 168 rfl ?_
  refine keep [1, 2, 7, 8] rfl ?_
  refine W_seq ?_
  refine r1 ?_
  refine s1 31 168 1 rfl rfl rfl rfl rfl rfl trivial ?_
  refine s1 32 176 2 rfl rfl rfl rfl rfl rfl (by first | trivial | omega) ?_
  refine s1 33 184 3 rfl rfl rfl rfl rfl rfl (by first | trivial | omega) ?_
  refine val 33 (SV.i 3) rfl (by rw [hn]; rfl) ?_
  refine s1 34 192 4 rfl rfl rfl rfl rfl rfl trivial ?_
  refine e1 200 rfl ?_
  refine keep [1, 2, 7, 8, 32, 33, 34] rfl ?_
  refine W_block ?_
  refine W_unroll 4 ?_
  refine unr ?_
  refine r1 ?_
  refine s1 35 200 1 rfl rfl rfl rfl rfl rfl (by first | trivial | omega) ?_
  refine e1 208 rfl ?_
  refine keep [1, 2, 7, 8, 32, 33, 34, 35] rfl ?_
  refine W_seq ?_
  refine q1 rfl (fun hc10 => ?_) (fun hc10 => ?_)
  · skip
    try simp only [cs, ne_eq] at hc10
    refine W_skip ?_
    refine tn ?_
    refine W_seq ?_
    refine W_block ?_
    refine r1 ?_
    refine s1 36 208 1 rfl rfl rfl rfl rfl rfl (by rw [hn]; decide) ?_
    refine s1 37 216 2 rfl rfl rfl rfl rfl rfl (by rw [hn]; decide) ?_
    refine s1 10 224 3 rfl rfl rfl rfl rfl rfl trivial ?_
    refine e1 232 rfl ?_
    refine keep [1, 2, 7, 8, 10, 32, 33, 34] rfl ?_
    refine r0 ?_
    refine s1 38 232 1 rfl rfl rfl rfl rfl rfl trivial ?_
    refine s1 39 240 2 rfl rfl rfl rfl rfl rfl trivial ?_
    refine s1 40 248 3 rfl rfl rfl rfl rfl rfl trivial ?_
    refine s1 41 256 4 rfl rfl rfl rfl rfl rfl trivial ?_
    refine s1 42 264 5 rfl rfl rfl rfl rfl rfl trivial ?_
    refine s1 43 272 6 rfl rfl rfl rfl rfl rfl (by decide) ?_
    refine s1 8 280 7 rfl rfl rfl rfl rfl rfl trivial ?_
    refine e1 288 rfl ?_
    refine bn ?_
    refine tn ?_
    refine r0 ?_
    refine sA 44 288 1 rfl rfl rfl rfl rfl rfl rfl rfl rfl (by unfold inRange; omega) ?_
    refine s1 34 296 2 rfl rfl rfl rfl rfl rfl trivial ?_
    refine e1 304 rfl ?_
    refine tn ?_
    refine unr ?_
    refine r1 ?_
    refine s1 35 304 1 rfl rfl rfl rfl rfl rfl (by first | trivial | omega) ?_
    refine e1 312 rfl ?_
    refine keep [1, 2, 7, 8, 32, 33, 34, 35] rfl ?_
    refine W_seq ?_
    refine q1 rfl (fun hc10 => ?_) (fun hc10 => ?_)
    · skip
      try simp only [cs, ne_eq] at hc10
      refine W_skip ?_
      refine tn ?_
      refine W_seq ?_
      refine W_block ?_
      refine r1 ?_
      refine s1 36 312 1 rfl rfl rfl rfl rfl rfl (by rw [hn]; decide) ?_
      refine s1 37 320 2 rfl rfl rfl rfl rfl rfl (by rw [hn]; decide) ?_
      refine s1 10 328 3 rfl rfl rfl rfl rfl rfl trivial ?_
      refine e1 336 rfl ?_
      refine keep [1, 2, 7, 8, 10, 32, 33, 34] rfl ?_
      refine r0 ?_
      refine s1 38 336 1 rfl rfl rfl rfl rfl rfl trivial ?_
      refine s1 39 344 2 rfl rfl rfl rfl rfl rfl trivial ?_
      refine s1 40 352 3 rfl rfl rfl rfl rfl rfl trivial ?_
      refine s1 41 360 4 rfl rfl rfl rfl rfl rfl trivial ?_
      refine s1 42 368 5 rfl rfl rfl rfl rfl rfl trivial ?_
      refine s1 43 376 6 rfl rfl rfl rfl rfl rfl (by decide) ?_
      refine s1 8 384 7 rfl rfl rfl rfl rfl rfl trivial ?_
      refine e1 392 rfl ?_
      refine bn ?_
      refine tn ?_
      refine r0 ?_
      refine sA 44 392 1 rfl rfl rfl rfl rfl rfl rfl rfl rfl (by unfold inRange; omega) ?_
      refine s1 34 400 2 rfl rfl rfl rfl rfl rfl trivial ?_
      refine e1 408 rfl ?_
      refine tn ?_
      refine unr ?_
      refine r1 ?_
      refine s1 35 408 1 rfl rfl rfl rfl rfl rfl (by first | trivial | omega) ?_
      refine e1 416 rfl ?_
      refine keep [1, 2, 7, 8, 32, 33, 34, 35] rfl ?_
      refine W_seq ?_
      refine q1 rfl (fun hc10 => ?_) (fun hc10 => ?_)
      · skip
        try simp only [cs, ne_eq] at hc10
        refine W_skip ?_
        refine tn ?_
        refine W_seq ?_
        refine W_block ?_
        refine r1 ?_
        refine s1 36 416 1 rfl rfl rfl rfl rfl rfl (by rw [hn]; decide) ?_
        refine s1 37 424 2 rfl rfl rfl rfl rfl rfl (by rw [hn]; decide) ?_
        refine s1 10 432 3 rfl rfl rfl rfl rfl rfl trivial ?_
        refine e1 440 rfl ?_
        refine keep [1, 2, 7, 8, 10, 32, 33, 34] rfl ?_
        refine r0 ?_
        refine s1 38 440 1 rfl rfl rfl rfl rfl rfl trivial ?_
        refine s1 39 448 2 rfl rfl rfl rfl rfl rfl trivial ?_
        refine s1 40 456 3 rfl rfl rfl rfl rfl rfl trivial ?_
        refine s1 41 464 4 rfl rfl rfl rfl rfl rfl trivial ?_
        refine s1 42 472 5 rfl rfl rfl rfl rfl rfl trivial ?_
        refine s1 43 480 6 rfl rfl rfl rfl rfl rfl (by decide) ?_
        refine s1 8 488 7 rfl rfl rfl rfl rfl rfl trivial ?_
        refine e1 496 rfl ?_
        refine bn ?_
        refine tn ?_
        refine r0 ?_
        refine sA 44 496 1 rfl rfl rfl rfl rfl rfl rfl rfl rfl (by unfold inRange; omega) ?_
        refine s1 34 504 2 rfl rfl rfl rfl rfl rfl trivial ?_
        refine e1 512 rfl ?_
        refine tn ?_
        refine unr ?_
        refine r1 ?_
        refine s1 35 512 1 rfl rfl rfl rfl rfl rfl (by first | trivial | omega) ?_
        refine e1 520 rfl ?_
        refine keep [1, 2, 7, 8, 32, 33, 34, 35] rfl ?_
        refine W_seq ?_
        refine q1 rfl (fun hc10 => ?_) (fun hc10 => ?_)
        · skip
          exact absurd hc10 (by decide)
        try simp only [cs, ne_eq] at hc10
        refine W_exit ?_
        refine tx ?_
        refine tx ?_
        refine bx ?_
        refine tn ?_
        refine r1 ?_
        refine s1 11 520 1 rfl rfl rfl rfl rfl rfl trivial ?_
        refine e1 528 rfl ?_
        refine keep [1, 2, 7, 8, 11] rfl ?_
        refine W_seq ?_
        refine r1 ?_
        refine s1 45 528 1 rfl rfl rfl rfl rfl rfl trivial ?_
        refine s1 46 536 2 rfl rfl rfl rfl rfl rfl (by first | trivial | omega) ?_
        refine s1 47 544 3 rfl rfl rfl rfl rfl rfl trivial ?_
        refine e1 552 rfl ?_
        refine keep [2, 7, 8, 11, 45, 46, 47] rfl ?_
        refine W_block ?_
        refine ccell 256 2 (.op 90000 false) rfl rfl (fun M ρ v h => nil_op h) ?_
        refine ccell 360 2 (.op 90002 false) rfl rfl (fun M ρ v h => nil_op h) ?_
        refine ccell 464 2 (.op 90004 false) rfl rfl (fun M ρ v h => nil_op h) ?_
        refine ghostly 11 50 6 (evF []) rfl ?_
        refine loop (α := Nat × (List Int) × (List Ev) × TS × TS × TS) 13 (fun z => [(2, .ptr 0 0 0), (7, .sl 1 0 (z.2.1).length), (8, .sl 3 0 3), (11, .sl 2 0 (z.2.2.1).length), (45, intsV sc), (46, SV.i sc.length), (47, SV.i (z.1))]) (fun z => [some (machBlk q), some (intsB (z.2.1)), some (evB (z.2.2.1)), some (.cells 80 1 [.ptr 4 0 0, .ptr 7 0 0, .ptr 10 0 0]), some (.cells 83 3 [callV (q.ts.getD 0 []), SV.i (z.2.2.2.1).nx, .op 5 (z.2.2.2.1).cur.isSome]), thrO 6 (z.2.2.2.1).cur, toldO (z.2.2.2.1).cur, some (.cells 83 3 [callV (q.ts.getD 1 []), SV.i (z.2.2.2.2.1).nx, .op 8 (z.2.2.2.2.1).cur.isSome]), thrO 9 (z.2.2.2.2.1).cur, toldO (z.2.2.2.2.1).cur, some (.cells 83 3 [callV (q.ts.getD 2 []), SV.i (z.2.2.2.2.2).nx, .op 11 (z.2.2.2.2.2).cur.isSome]), thrO 12 (z.2.2.2.2.2).cur, toldO (z.2.2.2.2.2).cur]) (fun z => (z.1) ≤ sc.length ∧ prun q (sc.drop (z.1)) (z.1) ⟨(z.2.1), (z.2.2.1), [(z.2.2.2.1), (z.2.2.2.2.1), (z.2.2.2.2.2)]⟩ = prun q sc 0 (pinit q) ∧ (z.2.1).length = q.ws.length ∧ (z.2.2.1).length ≤ 2 * (z.1) ∧ TSok q 0 (z.2.2.2.1) ∧ TSok q 1 (z.2.2.2.2.1) ∧ TSok q 2 (z.2.2.2.2.2)) (fun z => sc.length - (z.1)) (((0, q.ws, [], ⟨0, none⟩, ⟨0, none⟩, ⟨0, none⟩) : Nat × (List Int) × (List Ev) × TS × TS × TS)) [0, 144, 552, 480, 256, 90000, 90001, 360, 90002, 90003, 464, 90004, 90005] (fun _ => rfl) (show (0) ≤ sc.length ∧ prun q (sc.drop (0)) (0) ⟨(q.ws), ([]), [(⟨0, none⟩), (⟨0, none⟩), (⟨0, none⟩)]⟩ = prun q sc 0 (pinit q) ∧ (q.ws).length = q.ws.length ∧ ([]).length ≤ 2 * (0) ∧ TSok q 0 (⟨0, none⟩) ∧ TSok q 1 (⟨0, none⟩) ∧ TSok q 2 (⟨0, none⟩) from ⟨by omega, by rw [pinit_n hn]; rfl, rfl, by simp, ok_init q 0, ok_init q 1, ok_init q 2⟩) rfl ⟨rfl, rfl, rfl, rfl, rfl, rfl, rfl, trivial⟩ ⟨rfl, rfl, rfl, rfl, rfl, rfl, rfl, trivial⟩ (fun z hx => ?_)
        obtain ⟨k, ws, out, s0, s1, s2⟩ := z
        show W _ _ _ ⟨tOf [(2, .ptr 0 0 0), (7, .sl 1 0 ws.length), (8, .sl 3 0 3), (11, .sl 2 0 out.length), (45, intsV sc), (46, SV.i sc.length), (47, SV.i k)], hOf [some (machBlk q), some (intsB ws), some (evB out), some (.cells 80 1 [.ptr 4 0 0, .ptr 7 0 0, .ptr 10 0 0]), some (.cells 83 3 [callV (q.ts.getD 0 []), SV.i s0.nx, .op 5 s0.cur.isSome]), thrO 6 s0.cur, toldO s0.cur, some (.cells 83 3 [callV (q.ts.getD 1 []), SV.i s1.nx, .op 8 s1.cur.isSome]), thrO 9 s1.cur, toldO s1.cur, some (.cells 83 3 [callV (q.ts.getD 2 []), SV.i s2.nx, .op 11 s2.cur.isSome]), thrO 12 s2.cur, toldO s2.cur], 13⟩
        have hx : k ≤ sc.length ∧ prun q (sc.drop k) k ⟨ws, out, [s0, s1, s2]⟩ = prun q sc 0 (pinit q) ∧ ws.length = q.ws.length ∧ out.length ≤ 2 * k ∧ TSok q 0 s0 ∧ TSok q 1 s1 ∧ TSok q 2 s2 := hx
        obtain ⟨hk, hrun, hwl, hol, hs0, hs1, hs2⟩ := hx
        obtain ⟨x0, c0⟩ := s0
        obtain ⟨x1, c1⟩ := s1
        obtain ⟨x2, c2⟩ := s2
        have hq20_0 := thr_short hM 0
        have hq20_1 := thr_short hM 1
        have hq20_2 := thr_short hM 2
        refine r1 ?_
        refine s1 48 13 1 rfl rfl rfl rfl rfl rfl (by first | trivial | omega) ?_
        refine e1 21 rfl ?_
        refine keep [2, 7, 8, 11, 45, 46, 47, 48] rfl ?_
        refine W_seq ?_
        refine q1 rfl (fun hc16 => ?_) (fun hc16 => ?_)
        · skip
          try simp only [cs, ne_eq] at hc16
          refine W_skip ?_
          refine tn ?_
          refine W_seq ?_
          refine W_block ?_
          refine r1 ?_
          refine s1 49 21 1 rfl rfl rfl rfl rfl rfl trivial ?_
          refine s1 50 29 2 rfl rfl rfl rfl rfl rfl (by first | trivial | omega) ?_
          refine s1 51 37 3 rfl rfl rfl rfl rfl rfl (by omega) ?_
          refine val 51 (SV.i (sc.getD k 0)) rfl (by simp only [Int.toNat_natCast]) ?_
          refine s1 12 45 4 rfl rfl rfl rfl rfl rfl trivial ?_
          refine s1 13 53 5 rfl rfl rfl rfl rfl rfl trivial ?_
          refine e1 61 rfl ?_
          refine keep [2, 7, 8, 11, 12, 13, 45, 46, 47] rfl ?_
          have hin := sched_in hB (show k < sc.length by omega)
          rcases (show sc.getD k 0 = ((0 : Nat) : Int) ∨ sc.getD k 0 = ((1 : Nat) : Int) ∨ sc.getD k 0 = ((2 : Nat) : Int) from by omega) with hv | hv | hv
          · skip
            refine cval 13 (SV.i ((0 : Nat) : Int)) rfl (by rw [hv]) ?_
            refine r1 ?_
            refine s1 52 61 1 rfl rfl rfl rfl rfl rfl trivial ?_
            refine s1 53 69 2 rfl rfl rfl rfl rfl rfl trivial ?_
            refine s1 54 77 3 rfl rfl rfl rfl rfl rfl (by first | trivial | omega) ?_
            refine s1 55 85 4 rfl rfl rfl rfl rfl rfl (by first | trivial | omega) ?_
            refine s1 14 93 5 rfl rfl rfl rfl rfl rfl trivial ?_
            refine e1 101 rfl ?_
            refine keep [2, 7, 8, 11, 12, 13, 14, 45, 46, 47] rfl ?_
            rcases c0 with _ | ⟨C, t⟩
            · skip
              refine ccell 4 2 (.d (.val (.pointer none))) rfl rfl (fun M ρ v h => op_nil h) ?_
              have hx20 := hs0.nx
              obtain ⟨p, hp⟩ : ∃ p, vstep (codeOf q 0 x0) ws (vnew (codeOf q 0 x0) (callAt q 0 x0).args) = p := ⟨_, rfl⟩
              refine W_focus [0, 1, 2, 4] [3] [(2, .ptr 0 0 0), (7, .sl 1 0 ws.length), (8, .sl 4 0 3), (11, .sl 2 0 out.length), (12, SV.i k), (13, SV.i ((0 : Nat) : Int)), (14, .ptr 3 0 0), (45, intsV sc), (46, SV.i sc.length), (47, SV.i k)] [machBlk q, intsB ws, evB out, .cells 83 3 [callV (q.ts.getD 0 []), SV.i x0, .d (.val (.pointer none))]] (playA q hM ws out x0 3 sc k k 0 (by omega) (by omega) (by omega) (by simp only [] at hx20; omega) p hp) rfl ⟨rfl, rfl, rfl, rfl, rfl, rfl, rfl, rfl, rfl, rfl, trivial⟩ ⟨rfl, rfl, rfl, rfl, trivial⟩ ?_
              rintro e tl' hout (⟨hlt, rfl, rfl, rfl⟩ | ⟨hlt, hov, rfl, rfl, rfl⟩ | ⟨hlt, hov, rfl, rfl, rfl⟩) -
              · skip
                refine bx ?_
                refine tn ?_
                refine ccell 4 2 (.op 5 false) rfl rfl (fun M ρ v h => nil_op h) ?_
                refine r0 ?_
                refine sA 158 109 1 rfl rfl rfl rfl rfl rfl rfl rfl rfl (by unfold inRange; omega) ?_
                refine s1 47 117 2 rfl rfl rfl rfl rfl rfl trivial ?_
                refine e1 125 rfl ?_
                refine tn ?_
                exact again (((k + 1, ws, out, ⟨x0, none⟩, ⟨x1, c1⟩, ⟨x2, c2⟩) : Nat × (List Int) × (List Ev) × TS × TS × TS)) [0, 1, 2, 3, 4, 5, 6, 7, 8, 9, 10, 11, 12] (show (k + 1) ≤ sc.length ∧ prun q (sc.drop (k + 1)) (k + 1) ⟨(ws), (out), [(⟨x0, none⟩), (⟨x1, c1⟩), (⟨x2, c2⟩)]⟩ = prun q sc 0 (pinit q) ∧ (ws).length = q.ws.length ∧ (out).length ≤ 2 * (k + 1) ∧ TSok q 0 (⟨x0, none⟩) ∧ TSok q 1 (⟨x1, c1⟩) ∧ TSok q 2 (⟨x2, c2⟩) from ⟨by omega, (by rw [← hrun, prun_at (k := k) (by omega), hv, Int.toNat_natCast, pstep_eq (pb_idle hlt)]; rfl), hwl, (by omega), hs0, hs1, hs2⟩) (show sc.length - (k + 1) < sc.length - k from (by omega)) (by rcases c1 with _ | ⟨D1, u1⟩ <;> rcases c2 with _ | ⟨D2, u2⟩ <;> rfl) ⟨rfl, rfl, rfl, rfl, rfl, rfl, rfl, trivial⟩ (by rcases c1 with _ | ⟨D1, u1⟩ <;> rcases c2 with _ | ⟨D2, u2⟩ <;> (repeat' first | exact trivial | refine ⟨rfl, ?_⟩))
              · skip
                refine bn ?_
                refine tn ?_
                refine ccell 4 2 (.op 102 true) rfl rfl (fun M ρ v h => ptr_op h) ?_
                have hwl2 := ws_len (⟨(mach_calls hM (by omega) x0 hx20.1 hlt).2.2.2, vnew_ok⟩ : Live ws.length _ (vnew (codeOf q 0 x0) (callAt q 0 x0).args) ws) hp
                refine r0 ?_
                refine sA 158 109 1 rfl rfl rfl rfl rfl rfl rfl rfl rfl (by unfold inRange; omega) ?_
                refine s1 47 117 2 rfl rfl rfl rfl rfl rfl trivial ?_
                refine e1 125 rfl ?_
                refine tn ?_
                exact again (((k + 1, p.2, (out ++ [(Ev.mk k ((0 : Nat) : Int) x0 false 0 [])]), ⟨x0 + 1, some ((codeOf q 0 x0), p.1)⟩, ⟨x1, c1⟩, ⟨x2, c2⟩) : Nat × (List Int) × (List Ev) × TS × TS × TS)) [0, 1, 101, 3, 4, 102, 103, 7, 8, 9, 10, 11, 12] (show (k + 1) ≤ sc.length ∧ prun q (sc.drop (k + 1)) (k + 1) ⟨(p.2), ((out ++ [(Ev.mk k ((0 : Nat) : Int) x0 false 0 [])])), [(⟨x0 + 1, some ((codeOf q 0 x0), p.1)⟩), (⟨x1, c1⟩), (⟨x2, c2⟩)]⟩ = prun q sc 0 (pinit q) ∧ (p.2).length = q.ws.length ∧ ((out ++ [(Ev.mk k ((0 : Nat) : Int) x0 false 0 [])])).length ≤ 2 * (k + 1) ∧ TSok q 0 (⟨x0 + 1, some ((codeOf q 0 x0), p.1)⟩) ∧ TSok q 1 (⟨x1, c1⟩) ∧ TSok q 2 (⟨x2, c2⟩) from ⟨by omega, (by rw [← hrun, prun_at (k := k) (by omega), hv, Int.toNat_natCast, pstep_eq ((pb_begin hlt).trans (pgo_alive hp hov))]; rfl), hwl2.trans hwl, (by simp only [List.length_append, List.length_singleton]; omega), ok_alive (⟨(mach_calls hM (by omega) x0 hx20.1 hlt).2.2.2, vnew_ok⟩ : Live ws.length _ _ ws) (by simp only [] at hx20; omega) hp, hs1, hs2⟩) (show sc.length - (k + 1) < sc.length - k from (by omega)) (by rcases c1 with _ | ⟨D1, u1⟩ <;> rcases c2 with _ | ⟨D2, u2⟩ <;> rfl) ⟨rfl, rfl, rfl, rfl, rfl, rfl, rfl, trivial⟩ (by rcases c1 with _ | ⟨D1, u1⟩ <;> rcases c2 with _ | ⟨D2, u2⟩ <;> (repeat' first | exact trivial | refine ⟨rfl, ?_⟩))
              refine bn ?_
              refine tn ?_
              refine ccell 4 2 (.op 5 false) rfl rfl (fun M ρ v h => nil_op h) ?_
              have hwl2 := ws_len (⟨(mach_calls hM (by omega) x0 hx20.1 hlt).2.2.2, vnew_ok⟩ : Live ws.length _ (vnew (codeOf q 0 x0) (callAt q 0 x0).args) ws) hp
              refine r0 ?_
              refine sA 158 109 1 rfl rfl rfl rfl rfl rfl rfl rfl rfl (by unfold inRange; omega) ?_
              refine s1 47 117 2 rfl rfl rfl rfl rfl rfl trivial ?_
              refine e1 125 rfl ?_
              refine tn ?_
              exact again (((k + 1, p.2, ((out ++ [(Ev.mk k ((0 : Nat) : Int) x0 false 0 [])]) ++ [(Ev.mk k ((0 : Nat) : Int) (x0 + 1 - 1) true p.1.e p.1.told)]), ⟨x0 + 1, none⟩, ⟨x1, c1⟩, ⟨x2, c2⟩) : Nat × (List Int) × (List Ev) × TS × TS × TS)) [0, 1, 101, 3, 4, 5, 6, 7, 8, 9, 10, 11, 12] (show (k + 1) ≤ sc.length ∧ prun q (sc.drop (k + 1)) (k + 1) ⟨(p.2), (((out ++ [(Ev.mk k ((0 : Nat) : Int) x0 false 0 [])]) ++ [(Ev.mk k ((0 : Nat) : Int) (x0 + 1 - 1) true p.1.e p.1.told)])), [(⟨x0 + 1, none⟩), (⟨x1, c1⟩), (⟨x2, c2⟩)]⟩ = prun q sc 0 (pinit q) ∧ (p.2).length = q.ws.length ∧ (((out ++ [(Ev.mk k ((0 : Nat) : Int) x0 false 0 [])]) ++ [(Ev.mk k ((0 : Nat) : Int) (x0 + 1 - 1) true p.1.e p.1.told)])).length ≤ 2 * (k + 1) ∧ TSok q 0 (⟨x0 + 1, none⟩) ∧ TSok q 1 (⟨x1, c1⟩) ∧ TSok q 2 (⟨x2, c2⟩) from ⟨by omega, (by rw [← hrun, prun_at (k := k) (by omega), hv, Int.toNat_natCast, pstep_eq ((pb_begin hlt).trans (pgo_over hp hov))]; rfl), hwl2.trans hwl, (by simp only [List.length_append, List.length_singleton]; omega), ok_over (by simp only [] at hx20; omega), hs1, hs2⟩) (show sc.length - (k + 1) < sc.length - k from (by omega)) (by rcases c1 with _ | ⟨D1, u1⟩ <;> rcases c2 with _ | ⟨D2, u2⟩ <;> rfl) ⟨rfl, rfl, rfl, rfl, rfl, rfl, rfl, trivial⟩ (by rcases c1 with _ | ⟨D1, u1⟩ <;> rcases c2 with _ | ⟨D2, u2⟩ <;> (repeat' first | exact trivial | refine ⟨rfl, ?_⟩))
            refine ccell 4 2 (.ptr 5 0 0) rfl rfl (fun M ρ v h => op_ptr h) ?_
            have hlive := live_of (ws := ws) hs0
            have hx20 := hs0.nx
            obtain ⟨p, hp⟩ : ∃ p, vstep C ws t = p := ⟨_, rfl⟩
            refine W_focus [0, 1, 2, 4, 5, 6] [3] [(2, .ptr 0 0 0), (7, .sl 1 0 ws.length), (8, .sl 6 0 3), (11, .sl 2 0 out.length), (12, SV.i k), (13, SV.i ((0 : Nat) : Int)), (14, .ptr 3 0 0), (45, intsV sc), (46, SV.i sc.length), (47, SV.i k)] [machBlk q, intsB ws, evB out, .cells 83 3 [callV (q.ts.getD 0 []), SV.i x0, .ptr 4 0 0], thrYB 5 C t, intsB t.told] (playC q ws out (q.ts.getD 0 []) x0 C t 3 sc k k ((0 : Nat) : Int) hlive.1 (by omega) (by omega) (by simp only [] at hx20; have := hlive.2; omega) p hp) rfl ⟨rfl, rfl, rfl, rfl, rfl, rfl, rfl, rfl, rfl, rfl, trivial⟩ ⟨rfl, rfl, rfl, rfl, rfl, rfl, trivial⟩ ?_
            rintro e tl' hout (⟨hov, rfl, rfl, rfl⟩ | ⟨hov, rfl, rfl, rfl⟩) -
            · skip
              refine bn ?_
              refine tn ?_
              refine ccell 4 2 (.op 5 true) rfl rfl (fun M ρ v h => ptr_op h) ?_
              have hwl2 := ws_len hlive.1 hp
              refine r0 ?_
              refine sA 158 109 1 rfl rfl rfl rfl rfl rfl rfl rfl rfl (by unfold inRange; omega) ?_
              refine s1 47 117 2 rfl rfl rfl rfl rfl rfl trivial ?_
              refine e1 125 rfl ?_
              refine tn ?_
              exact again (((k + 1, p.2, out, ⟨x0, some (C, p.1)⟩, ⟨x1, c1⟩, ⟨x2, c2⟩) : Nat × (List Int) × (List Ev) × TS × TS × TS)) [0, 1, 2, 3, 4, 5, 101, 7, 8, 9, 10, 11, 12] (show (k + 1) ≤ sc.length ∧ prun q (sc.drop (k + 1)) (k + 1) ⟨(p.2), (out), [(⟨x0, some (C, p.1)⟩), (⟨x1, c1⟩), (⟨x2, c2⟩)]⟩ = prun q sc 0 (pinit q) ∧ (p.2).length = q.ws.length ∧ (out).length ≤ 2 * (k + 1) ∧ TSok q 0 (⟨x0, some (C, p.1)⟩) ∧ TSok q 1 (⟨x1, c1⟩) ∧ TSok q 2 (⟨x2, c2⟩) from ⟨by omega, (by rw [← hrun, prun_at (k := k) (by omega), hv, Int.toNat_natCast, pstep_eq (pb_go.trans (pgo_alive hp hov))]; rfl), hwl2.trans hwl, (by omega), ok_alive hlive.1 (by simp only [] at hx20; have := hlive.2; omega) hp, hs1, hs2⟩) (show sc.length - (k + 1) < sc.length - k from (by omega)) (by rcases c1 with _ | ⟨D1, u1⟩ <;> rcases c2 with _ | ⟨D2, u2⟩ <;> rfl) ⟨rfl, rfl, rfl, rfl, rfl, rfl, rfl, trivial⟩ (by rcases c1 with _ | ⟨D1, u1⟩ <;> rcases c2 with _ | ⟨D2, u2⟩ <;> (repeat' first | exact trivial | refine ⟨rfl, ?_⟩))
            refine bn ?_
            refine tn ?_
            refine ccell 4 2 (.op 5 false) rfl rfl (fun M ρ v h => nil_op h) ?_
            have hwl2 := ws_len hlive.1 hp
            refine r0 ?_
            refine sA 158 109 1 rfl rfl rfl rfl rfl rfl rfl rfl rfl (by unfold inRange; omega) ?_
            refine s1 47 117 2 rfl rfl rfl rfl rfl rfl trivial ?_
            refine e1 125 rfl ?_
            refine tn ?_
            exact again (((k + 1, p.2, (out ++ [(Ev.mk k ((0 : Nat) : Int) (x0 - 1) true p.1.e p.1.told)]), ⟨x0, none⟩, ⟨x1, c1⟩, ⟨x2, c2⟩) : Nat × (List Int) × (List Ev) × TS × TS × TS)) [0, 1, 101, 3, 4, 5, 6, 7, 8, 9, 10, 11, 12] (show (k + 1) ≤ sc.length ∧ prun q (sc.drop (k + 1)) (k + 1) ⟨(p.2), ((out ++ [(Ev.mk k ((0 : Nat) : Int) (x0 - 1) true p.1.e p.1.told)])), [(⟨x0, none⟩), (⟨x1, c1⟩), (⟨x2, c2⟩)]⟩ = prun q sc 0 (pinit q) ∧ (p.2).length = q.ws.length ∧ ((out ++ [(Ev.mk k ((0 : Nat) : Int) (x0 - 1) true p.1.e p.1.told)])).length ≤ 2 * (k + 1) ∧ TSok q 0 (⟨x0, none⟩) ∧ TSok q 1 (⟨x1, c1⟩) ∧ TSok q 2 (⟨x2, c2⟩) from ⟨by omega, (by rw [← hrun, prun_at (k := k) (by omega), hv, Int.toNat_natCast, pstep_eq (pb_go.trans (pgo_over hp hov))]; rfl), hwl2.trans hwl, (by simp only [List.length_append, List.length_singleton]; omega), ok_over hx20, hs1, hs2⟩) (show sc.length - (k + 1) < sc.length - k from (by omega)) (by rcases c1 with _ | ⟨D1, u1⟩ <;> rcases c2 with _ | ⟨D2, u2⟩ <;> rfl) ⟨rfl, rfl, rfl, rfl, rfl, rfl, rfl, trivial⟩ (by rcases c1 with _ | ⟨D1, u1⟩ <;> rcases c2 with _ | ⟨D2, u2⟩ <;> (repeat' first | exact trivial | refine ⟨rfl, ?_⟩))
          · skip
            refine cval 13 (SV.i ((1 : Nat) : Int)) rfl (by rw [hv]) ?_
            refine r1 ?_
            refine s1 52 61 1 rfl rfl rfl rfl rfl rfl trivial ?_
            refine s1 53 69 2 rfl rfl rfl rfl rfl rfl trivial ?_
            refine s1 54 77 3 rfl rfl rfl rfl rfl rfl (by first | trivial | omega) ?_
            refine s1 55 85 4 rfl rfl rfl rfl rfl rfl (by first | trivial | omega) ?_
            refine s1 14 93 5 rfl rfl rfl rfl rfl rfl trivial ?_
            refine e1 101 rfl ?_
            refine keep [2, 7, 8, 11, 12, 13, 14, 45, 46, 47] rfl ?_
            rcases c1 with _ | ⟨C, t⟩
            · skip
              refine ccell 7 2 (.d (.val (.pointer none))) rfl rfl (fun M ρ v h => op_nil h) ?_
              have hx20 := hs1.nx
              obtain ⟨p, hp⟩ : ∃ p, vstep (codeOf q 1 x1) ws (vnew (codeOf q 1 x1) (callAt q 1 x1).args) = p := ⟨_, rfl⟩
              refine W_focus [0, 1, 2, 7] [3] [(2, .ptr 0 0 0), (7, .sl 1 0 ws.length), (8, .sl 4 0 3), (11, .sl 2 0 out.length), (12, SV.i k), (13, SV.i ((1 : Nat) : Int)), (14, .ptr 3 0 0), (45, intsV sc), (46, SV.i sc.length), (47, SV.i k)] [machBlk q, intsB ws, evB out, .cells 83 3 [callV (q.ts.getD 1 []), SV.i x1, .d (.val (.pointer none))]] (playA q hM ws out x1 3 sc k k 1 (by omega) (by omega) (by omega) (by simp only [] at hx20; omega) p hp) rfl ⟨rfl, rfl, rfl, rfl, rfl, rfl, rfl, rfl, rfl, rfl, trivial⟩ ⟨rfl, rfl, rfl, rfl, trivial⟩ ?_
              rintro e tl' hout (⟨hlt, rfl, rfl, rfl⟩ | ⟨hlt, hov, rfl, rfl, rfl⟩ | ⟨hlt, hov, rfl, rfl, rfl⟩) -
              · skip
                refine bx ?_
                refine tn ?_
                refine ccell 7 2 (.op 8 false) rfl rfl (fun M ρ v h => nil_op h) ?_
                refine r0 ?_
                refine sA 158 109 1 rfl rfl rfl rfl rfl rfl rfl rfl rfl (by unfold inRange; omega) ?_
                refine s1 47 117 2 rfl rfl rfl rfl rfl rfl trivial ?_
                refine e1 125 rfl ?_
                refine tn ?_
                exact again (((k + 1, ws, out, ⟨x0, c0⟩, ⟨x1, none⟩, ⟨x2, c2⟩) : Nat × (List Int) × (List Ev) × TS × TS × TS)) [0, 1, 2, 3, 4, 5, 6, 7, 8, 9, 10, 11, 12] (show (k + 1) ≤ sc.length ∧ prun q (sc.drop (k + 1)) (k + 1) ⟨(ws), (out), [(⟨x0, c0⟩), (⟨x1, none⟩), (⟨x2, c2⟩)]⟩ = prun q sc 0 (pinit q) ∧ (ws).length = q.ws.length ∧ (out).length ≤ 2 * (k + 1) ∧ TSok q 0 (⟨x0, c0⟩) ∧ TSok q 1 (⟨x1, none⟩) ∧ TSok q 2 (⟨x2, c2⟩) from ⟨by omega, (by rw [← hrun, prun_at (k := k) (by omega), hv, Int.toNat_natCast, pstep_eq (pb_idle hlt)]; rfl), hwl, (by omega), hs0, hs1, hs2⟩) (show sc.length - (k + 1) < sc.length - k from (by omega)) (by rcases c0 with _ | ⟨D0, u0⟩ <;> rcases c2 with _ | ⟨D2, u2⟩ <;> rfl) ⟨rfl, rfl, rfl, rfl, rfl, rfl, rfl, trivial⟩ (by rcases c0 with _ | ⟨D0, u0⟩ <;> rcases c2 with _ | ⟨D2, u2⟩ <;> (repeat' first | exact trivial | refine ⟨rfl, ?_⟩))
              · skip
                refine bn ?_
                refine tn ?_
                refine ccell 7 2 (.op 102 true) rfl rfl (fun M ρ v h => ptr_op h) ?_
                have hwl2 := ws_len (⟨(mach_calls hM (by omega) x1 hx20.1 hlt).2.2.2, vnew_ok⟩ : Live ws.length _ (vnew (codeOf q 1 x1) (callAt q 1 x1).args) ws) hp
                refine r0 ?_
                refine sA 158 109 1 rfl rfl rfl rfl rfl rfl rfl rfl rfl (by unfold inRange; omega) ?_
                refine s1 47 117 2 rfl rfl rfl rfl rfl rfl trivial ?_
                refine e1 125 rfl ?_
                refine tn ?_
                exact again (((k + 1, p.2, (out ++ [(Ev.mk k ((1 : Nat) : Int) x1 false 0 [])]), ⟨x0, c0⟩, ⟨x1 + 1, some ((codeOf q 1 x1), p.1)⟩, ⟨x2, c2⟩) : Nat × (List Int) × (List Ev) × TS × TS × TS)) [0, 1, 101, 3, 4, 5, 6, 7, 102, 103, 10, 11, 12] (show (k + 1) ≤ sc.length ∧ prun q (sc.drop (k + 1)) (k + 1) ⟨(p.2), ((out ++ [(Ev.mk k ((1 : Nat) : Int) x1 false 0 [])])), [(⟨x0, c0⟩), (⟨x1 + 1, some ((codeOf q 1 x1), p.1)⟩), (⟨x2, c2⟩)]⟩ = prun q sc 0 (pinit q) ∧ (p.2).length = q.ws.length ∧ ((out ++ [(Ev.mk k ((1 : Nat) : Int) x1 false 0 [])])).length ≤ 2 * (k + 1) ∧ TSok q 0 (⟨x0, c0⟩) ∧ TSok q 1 (⟨x1 + 1, some ((codeOf q 1 x1), p.1)⟩) ∧ TSok q 2 (⟨x2, c2⟩) from ⟨by omega, (by rw [← hrun, prun_at (k := k) (by omega), hv, Int.toNat_natCast, pstep_eq ((pb_begin hlt).trans (pgo_alive hp hov))]; rfl), hwl2.trans hwl, (by simp only [List.length_append, List.length_singleton]; omega), hs0, ok_alive (⟨(mach_calls hM (by omega) x1 hx20.1 hlt).2.2.2, vnew_ok⟩ : Live ws.length _ _ ws) (by simp only [] at hx20; omega) hp, hs2⟩) (show sc.length - (k + 1) < sc.length - k from (by omega)) (by rcases c0 with _ | ⟨D0, u0⟩ <;> rcases c2 with _ | ⟨D2, u2⟩ <;> rfl) ⟨rfl, rfl, rfl, rfl, rfl, rfl, rfl, trivial⟩ (by rcases c0 with _ | ⟨D0, u0⟩ <;> rcases c2 with _ | ⟨D2, u2⟩ <;> (repeat' first | exact trivial | refine ⟨rfl, ?_⟩))
              refine bn ?_
              refine tn ?_
              refine ccell 7 2 (.op 8 false) rfl rfl (fun M ρ v h => nil_op h) ?_
              have hwl2 := ws_len (⟨(mach_calls hM (by omega) x1 hx20.1 hlt).2.2.2, vnew_ok⟩ : Live ws.length _ (vnew (codeOf q 1 x1) (callAt q 1 x1).args) ws) hp
              refine r0 ?_
              refine sA 158 109 1 rfl rfl rfl rfl rfl rfl rfl rfl rfl (by unfold inRange; omega) ?_
              refine s1 47 117 2 rfl rfl rfl rfl rfl rfl trivial ?_
              refine e1 125 rfl ?_
              refine tn ?_
              exact again (((k + 1, p.2, ((out ++ [(Ev.mk k ((1 : Nat) : Int) x1 false 0 [])]) ++ [(Ev.mk k ((1 : Nat) : Int) (x1 + 1 - 1) true p.1.e p.1.told)]), ⟨x0, c0⟩, ⟨x1 + 1, none⟩, ⟨x2, c2⟩) : Nat × (List Int) × (List Ev) × TS × TS × TS)) [0, 1, 101, 3, 4, 5, 6, 7, 8, 9, 10, 11, 12] (show (k + 1) ≤ sc.length ∧ prun q (sc.drop (k + 1)) (k + 1) ⟨(p.2), (((out ++ [(Ev.mk k ((1 : Nat) : Int) x1 false 0 [])]) ++ [(Ev.mk k ((1 : Nat) : Int) (x1 + 1 - 1) true p.1.e p.1.told)])), [(⟨x0, c0⟩), (⟨x1 + 1, none⟩), (⟨x2, c2⟩)]⟩ = prun q sc 0 (pinit q) ∧ (p.2).length = q.ws.length ∧ (((out ++ [(Ev.mk k ((1 : Nat) : Int) x1 false 0 [])]) ++ [(Ev.mk k ((1 : Nat) : Int) (x1 + 1 - 1) true p.1.e p.1.told)])).length ≤ 2 * (k + 1) ∧ TSok q 0 (⟨x0, c0⟩) ∧ TSok q 1 (⟨x1 + 1, none⟩) ∧ TSok q 2 (⟨x2, c2⟩) from ⟨by omega, (by rw [← hrun, prun_at (k := k) (by omega), hv, Int.toNat_natCast, pstep_eq ((pb_begin hlt).trans (pgo_over hp hov))]; rfl), hwl2.trans hwl, (by simp only [List.length_append, List.length_singleton]; omega), hs0, ok_over (by simp only [] at hx20; omega), hs2⟩) (show sc.length - (k + 1) < sc.length - k from (by omega)) (by rcases c0 with _ | ⟨D0, u0⟩ <;> rcases c2 with _ | ⟨D2, u2⟩ <;> rfl) ⟨rfl, rfl, rfl, rfl, rfl, rfl, rfl, trivial⟩ (by rcases c0 with _ | ⟨D0, u0⟩ <;> rcases c2 with _ | ⟨D2, u2⟩ <;> (repeat' first | exact trivial | refine ⟨rfl, ?_⟩))
            refine ccell 7 2 (.ptr 8 0 0) rfl rfl (fun M ρ v h => op_ptr h) ?_
            have hlive := live_of (ws := ws) hs1
            have hx20 := hs1.nx
            obtain ⟨p, hp⟩ : ∃ p, vstep C ws t = p := ⟨_, rfl⟩
            refine W_focus [0, 1, 2, 7, 8, 9] [3] [(2, .ptr 0 0 0), (7, .sl 1 0 ws.length), (8, .sl 6 0 3), (11, .sl 2 0 out.length), (12, SV.i k), (13, SV.i ((1 : Nat) : Int)), (14, .ptr 3 0 0), (45, intsV sc), (46, SV.i sc.length), (47, SV.i k)] [machBlk q, intsB ws, evB out, .cells 83 3 [callV (q.ts.getD 1 []), SV.i x1, .ptr 4 0 0], thrYB 5 C t, intsB t.told] (playC q ws out (q.ts.getD 1 []) x1 C t 3 sc k k ((1 : Nat) : Int) hlive.1 (by omega) (by omega) (by simp only [] at hx20; have := hlive.2; omega) p hp) rfl ⟨rfl, rfl, rfl, rfl, rfl, rfl, rfl, rfl, rfl, rfl, trivial⟩ ⟨rfl, rfl, rfl, rfl, rfl, rfl, trivial⟩ ?_
            rintro e tl' hout (⟨hov, rfl, rfl, rfl⟩ | ⟨hov, rfl, rfl, rfl⟩) -
            · skip
              refine bn ?_
              refine tn ?_
              refine ccell 7 2 (.op 8 true) rfl rfl (fun M ρ v h => ptr_op h) ?_
              have hwl2 := ws_len hlive.1 hp
              refine r0 ?_
              refine sA 158 109 1 rfl rfl rfl rfl rfl rfl rfl rfl rfl (by unfold inRange; omega) ?_
              refine s1 47 117 2 rfl rfl rfl rfl rfl rfl trivial ?_
              refine e1 125 rfl ?_
              refine tn ?_
              exact again (((k + 1, p.2, out, ⟨x0, c0⟩, ⟨x1, some (C, p.1)⟩, ⟨x2, c2⟩) : Nat × (List Int) × (List Ev) × TS × TS × TS)) [0, 1, 2, 3, 4, 5, 6, 7, 8, 101, 10, 11, 12] (show (k + 1) ≤ sc.length ∧ prun q (sc.drop (k + 1)) (k + 1) ⟨(p.2), (out), [(⟨x0, c0⟩), (⟨x1, some (C, p.1)⟩), (⟨x2, c2⟩)]⟩ = prun q sc 0 (pinit q) ∧ (p.2).length = q.ws.length ∧ (out).length ≤ 2 * (k + 1) ∧ TSok q 0 (⟨x0, c0⟩) ∧ TSok q 1 (⟨x1, some (C, p.1)⟩) ∧ TSok q 2 (⟨x2, c2⟩) from ⟨by omega, (by rw [← hrun, prun_at (k := k) (by omega), hv, Int.toNat_natCast, pstep_eq (pb_go.trans (pgo_alive hp hov))]; rfl), hwl2.trans hwl, (by omega), hs0, ok_alive hlive.1 (by simp only [] at hx20; have := hlive.2; omega) hp, hs2⟩) (show sc.length - (k + 1) < sc.length - k from (by omega)) (by rcases c0 with _ | ⟨D0, u0⟩ <;> rcases c2 with _ | ⟨D2, u2⟩ <;> rfl) ⟨rfl, rfl, rfl, rfl, rfl, rfl, rfl, trivial⟩ (by rcases c0 with _ | ⟨D0, u0⟩ <;> rcases c2 with _ | ⟨D2, u2⟩ <;> (repeat' first | exact trivial | refine ⟨rfl, ?_⟩))
            refine bn ?_
            refine tn ?_
            refine ccell 7 2 (.op 8 false) rfl rfl (fun M ρ v h => nil_op h) ?_
            have hwl2 := ws_len hlive.1 hp
            refine r0 ?_
            refine sA 158 109 1 rfl rfl rfl rfl rfl rfl rfl rfl rfl (by unfold inRange; omega) ?_
            refine s1 47 117 2 rfl rfl rfl rfl rfl rfl trivial ?_
            refine e1 125 rfl ?_
            refine tn ?_
            exact again (((k + 1, p.2, (out ++ [(Ev.mk k ((1 : Nat) : Int) (x1 - 1) true p.1.e p.1.told)]), ⟨x0, c0⟩, ⟨x1, none⟩, ⟨x2, c2⟩) : Nat × (List Int) × (List Ev) × TS × TS × TS)) [0, 1, 101, 3, 4, 5, 6, 7, 8, 9, 10, 11, 12] (show (k + 1) ≤ sc.length ∧ prun q (sc.drop (k + 1)) (k + 1) ⟨(p.2), ((out ++ [(Ev.mk k ((1 : Nat) : Int) (x1 - 1) true p.1.e p.1.told)])), [(⟨x0, c0⟩), (⟨x1, none⟩), (⟨x2, c2⟩)]⟩ = prun q sc 0 (pinit q) ∧ (p.2).length = q.ws.length ∧ ((out ++ [(Ev.mk k ((1 : Nat) : Int) (x1 - 1) true p.1.e p.1.told)])).length ≤ 2 * (k + 1) ∧ TSok q 0 (⟨x0, c0⟩) ∧ TSok q 1 (⟨x1, none⟩) ∧ TSok q 2 (⟨x2, c2⟩) from ⟨by omega, (by rw [← hrun, prun_at (k := k) (by omega), hv, Int.toNat_natCast, pstep_eq (pb_go.trans (pgo_over hp hov))]; rfl), hwl2.trans hwl, (by simp only [List.length_append, List.length_singleton]; omega), hs0, ok_over hx20, hs2⟩) (show sc.length - (k + 1) < sc.length - k from (by omega)) (by rcases c0 with _ | ⟨D0, u0⟩ <;> rcases c2 with _ | ⟨D2, u2⟩ <;> rfl) ⟨rfl, rfl, rfl, rfl, rfl, rfl, rfl, trivial⟩ (by rcases c0 with _ | ⟨D0, u0⟩ <;> rcases c2 with _ | ⟨D2, u2⟩ <;> (repeat' first | exact trivial | refine ⟨rfl, ?_⟩))
          refine cval 13 (SV.i ((2 : Nat) : Int)) rfl (by rw [hv]) ?_
          refine r1 ?_
          refine s1 52 61 1 rfl rfl rfl rfl rfl rfl trivial ?_
          refine s1 53 69 2 rfl rfl rfl rfl rfl rfl trivial ?_
          refine s1 54 77 3 rfl rfl rfl rfl rfl rfl (by first | trivial | omega) ?_
          refine s1 55 85 4 rfl rfl rfl rfl rfl rfl (by first | trivial | omega) ?_
          refine s1 14 93 5 rfl rfl rfl rfl rfl rfl trivial ?_
          refine e1 101 rfl ?_
          refine keep [2, 7, 8, 11, 12, 13, 14, 45, 46, 47] rfl ?_
          rcases c2 with _ | ⟨C, t⟩
          · skip
            refine ccell 10 2 (.d (.val (.pointer none))) rfl rfl (fun M ρ v h => op_nil h) ?_
            have hx20 := hs2.nx
            obtain ⟨p, hp⟩ : ∃ p, vstep (codeOf q 2 x2) ws (vnew (codeOf q 2 x2) (callAt q 2 x2).args) = p := ⟨_, rfl⟩
            refine W_focus [0, 1, 2, 10] [3] [(2, .ptr 0 0 0), (7, .sl 1 0 ws.length), (8, .sl 4 0 3), (11, .sl 2 0 out.length), (12, SV.i k), (13, SV.i ((2 : Nat) : Int)), (14, .ptr 3 0 0), (45, intsV sc), (46, SV.i sc.length), (47, SV.i k)] [machBlk q, intsB ws, evB out, .cells 83 3 [callV (q.ts.getD 2 []), SV.i x2, .d (.val (.pointer none))]] (playA q hM ws out x2 3 sc k k 2 (by omega) (by omega) (by omega) (by simp only [] at hx20; omega) p hp) rfl ⟨rfl, rfl, rfl, rfl, rfl, rfl, rfl, rfl, rfl, rfl, trivial⟩ ⟨rfl, rfl, rfl, rfl, trivial⟩ ?_
            rintro e tl' hout (⟨hlt, rfl, rfl, rfl⟩ | ⟨hlt, hov, rfl, rfl, rfl⟩ | ⟨hlt, hov, rfl, rfl, rfl⟩) -
            · skip
              refine bx ?_
              refine tn ?_
              refine ccell 10 2 (.op 11 false) rfl rfl (fun M ρ v h => nil_op h) ?_
              refine r0 ?_
              refine sA 158 109 1 rfl rfl rfl rfl rfl rfl rfl rfl rfl (by unfold inRange; omega) ?_
              refine s1 47 117 2 rfl rfl rfl rfl rfl rfl trivial ?_
              refine e1 125 rfl ?_
              refine tn ?_
              exact again (((k + 1, ws, out, ⟨x0, c0⟩, ⟨x1, c1⟩, ⟨x2, none⟩) : Nat × (List Int) × (List Ev) × TS × TS × TS)) [0, 1, 2, 3, 4, 5, 6, 7, 8, 9, 10, 11, 12] (show (k + 1) ≤ sc.length ∧ prun q (sc.drop (k + 1)) (k + 1) ⟨(ws), (out), [(⟨x0, c0⟩), (⟨x1, c1⟩), (⟨x2, none⟩)]⟩ = prun q sc 0 (pinit q) ∧ (ws).length = q.ws.length ∧ (out).length ≤ 2 * (k + 1) ∧ TSok q 0 (⟨x0, c0⟩) ∧ TSok q 1 (⟨x1, c1⟩) ∧ TSok q 2 (⟨x2, none⟩) from ⟨by omega, (by rw [← hrun, prun_at (k := k) (by omega), hv, Int.toNat_natCast, pstep_eq (pb_idle hlt)]; rfl), hwl, (by omega), hs0, hs1, hs2⟩) (show sc.length - (k + 1) < sc.length - k from (by omega)) (by rcases c0 with _ | ⟨D0, u0⟩ <;> rcases c1 with _ | ⟨D1, u1⟩ <;> rfl) ⟨rfl, rfl, rfl, rfl, rfl, rfl, rfl, trivial⟩ (by rcases c0 with _ | ⟨D0, u0⟩ <;> rcases c1 with _ | ⟨D1, u1⟩ <;> (repeat' first | exact trivial | refine ⟨rfl, ?_⟩))
            · skip
              refine bn ?_
              refine tn ?_
              refine ccell 10 2 (.op 102 true) rfl rfl (fun M ρ v h => ptr_op h) ?_
              have hwl2 := ws_len (⟨(mach_calls hM (by omega) x2 hx20.1 hlt).2.2.2, vnew_ok⟩ : Live ws.length _ (vnew (codeOf q 2 x2) (callAt q 2 x2).args) ws) hp
              refine r0 ?_
              refine sA 158 109 1 rfl rfl rfl rfl rfl rfl rfl rfl rfl (by unfold inRange; omega) ?_
              refine s1 47 117 2 rfl rfl rfl rfl rfl rfl trivial ?_
              refine e1 125 rfl ?_
              refine tn ?_
              exact again (((k + 1, p.2, (out ++ [(Ev.mk k ((2 : Nat) : Int) x2 false 0 [])]), ⟨x0, c0⟩, ⟨x1, c1⟩, ⟨x2 + 1, some ((codeOf q 2 x2), p.1)⟩) : Nat × (List Int) × (List Ev) × TS × TS × TS)) [0, 1, 101, 3, 4, 5, 6, 7, 8, 9, 10, 102, 103] (show (k + 1) ≤ sc.length ∧ prun q (sc.drop (k + 1)) (k + 1) ⟨(p.2), ((out ++ [(Ev.mk k ((2 : Nat) : Int) x2 false 0 [])])), [(⟨x0, c0⟩), (⟨x1, c1⟩), (⟨x2 + 1, some ((codeOf q 2 x2), p.1)⟩)]⟩ = prun q sc 0 (pinit q) ∧ (p.2).length = q.ws.length ∧ ((out ++ [(Ev.mk k ((2 : Nat) : Int) x2 false 0 [])])).length ≤ 2 * (k + 1) ∧ TSok q 0 (⟨x0, c0⟩) ∧ TSok q 1 (⟨x1, c1⟩) ∧ TSok q 2 (⟨x2 + 1, some ((codeOf q 2 x2), p.1)⟩) from ⟨by omega, (by rw [← hrun, prun_at (k := k) (by omega), hv, Int.toNat_natCast, pstep_eq ((pb_begin hlt).trans (pgo_alive hp hov))]; rfl), hwl2.trans hwl, (by simp only [List.length_append, List.length_singleton]; omega), hs0, hs1, ok_alive (⟨(mach_calls hM (by omega) x2 hx20.1 hlt).2.2.2, vnew_ok⟩ : Live ws.length _ _ ws) (by simp only [] at hx20; omega) hp⟩) (show sc.length - (k + 1) < sc.length - k from (by omega)) (by rcases c0 with _ | ⟨D0, u0⟩ <;> rcases c1 with _ | ⟨D1, u1⟩ <;> rfl) ⟨rfl, rfl, rfl, rfl, rfl, rfl, rfl, trivial⟩ (by rcases c0 with _ | ⟨D0, u0⟩ <;> rcases c1 with _ | ⟨D1, u1⟩ <;> (repeat' first | exact trivial | refine ⟨rfl, ?_⟩))
            refine bn ?_
            refine tn ?_
            refine ccell 10 2 (.op 11 false) rfl rfl (fun M ρ v h => nil_op h) ?_
            have hwl2 := ws_len (⟨(mach_calls hM (by omega) x2 hx20.1 hlt).2.2.2, vnew_ok⟩ : Live ws.length _ (vnew (codeOf q 2 x2) (callAt q 2 x2).args) ws) hp
            refine r0 ?_
            refine sA 158 109 1 rfl rfl rfl rfl rfl rfl rfl rfl rfl (by unfold inRange; omega) ?_
            refine s1 47 117 2 rfl rfl rfl rfl rfl rfl trivial ?_
            refine e1 125 rfl ?_
            refine tn ?_
            exact again (((k + 1, p.2, ((out ++ [(Ev.mk k ((2 : Nat) : Int) x2 false 0 [])]) ++ [(Ev.mk k ((2 : Nat) : Int) (x2 + 1 - 1) true p.1.e p.1.told)]), ⟨x0, c0⟩, ⟨x1, c1⟩, ⟨x2 + 1, none⟩) : Nat × (List Int) × (List Ev) × TS × TS × TS)) [0, 1, 101, 3, 4, 5, 6, 7, 8, 9, 10, 11, 12] (show (k + 1) ≤ sc.length ∧ prun q (sc.drop (k + 1)) (k + 1) ⟨(p.2), (((out ++ [(Ev.mk k ((2 : Nat) : Int) x2 false 0 [])]) ++ [(Ev.mk k ((2 : Nat) : Int) (x2 + 1 - 1) true p.1.e p.1.told)])), [(⟨x0, c0⟩), (⟨x1, c1⟩), (⟨x2 + 1, none⟩)]⟩ = prun q sc 0 (pinit q) ∧ (p.2).length = q.ws.length ∧ (((out ++ [(Ev.mk k ((2 : Nat) : Int) x2 false 0 [])]) ++ [(Ev.mk k ((2 : Nat) : Int) (x2 + 1 - 1) true p.1.e p.1.told)])).length ≤ 2 * (k + 1) ∧ TSok q 0 (⟨x0, c0⟩) ∧ TSok q 1 (⟨x1, c1⟩) ∧ TSok q 2 (⟨x2 + 1, none⟩) from ⟨by omega, (by rw [← hrun, prun_at (k := k) (by omega), hv, Int.toNat_natCast, pstep_eq ((pb_begin hlt).trans (pgo_over hp hov))]; rfl), hwl2.trans hwl, (by simp only [List.length_append, List.length_singleton]; omega), hs0, hs1, ok_over (by simp only [] at hx20; omega)⟩) (show sc.length - (k + 1) < sc.length - k from (by omega)) (by rcases c0 with _ | ⟨D0, u0⟩ <;> rcases c1 with _ | ⟨D1, u1⟩ <;> rfl) ⟨rfl, rfl, rfl, rfl, rfl, rfl, rfl, trivial⟩ (by rcases c0 with _ | ⟨D0, u0⟩ <;> rcases c1 with _ | ⟨D1, u1⟩ <;> (repeat' first | exact trivial | refine ⟨rfl, ?_⟩))
          refine ccell 10 2 (.ptr 11 0 0) rfl rfl (fun M ρ v h => op_ptr h) ?_
          have hlive := live_of (ws := ws) hs2
          have hx20 := hs2.nx
          obtain ⟨p, hp⟩ : ∃ p, vstep C ws t = p := ⟨_, rfl⟩
          refine W_focus [0, 1, 2, 10, 11, 12] [3] [(2, .ptr 0 0 0), (7, .sl 1 0 ws.length), (8, .sl 6 0 3), (11, .sl 2 0 out.length), (12, SV.i k), (13, SV.i ((2 : Nat) : Int)), (14, .ptr 3 0 0), (45, intsV sc), (46, SV.i sc.length), (47, SV.i k)] [machBlk q, intsB ws, evB out, .cells 83 3 [callV (q.ts.getD 2 []), SV.i x2, .ptr 4 0 0], thrYB 5 C t, intsB t.told] (playC q ws out (q.ts.getD 2 []) x2 C t 3 sc k k ((2 : Nat) : Int) hlive.1 (by omega) (by omega) (by simp only [] at hx20; have := hlive.2; omega) p hp) rfl ⟨rfl, rfl, rfl, rfl, rfl, rfl, rfl, rfl, rfl, rfl, trivial⟩ ⟨rfl, rfl, rfl, rfl, rfl, rfl, trivial⟩ ?_
          rintro e tl' hout (⟨hov, rfl, rfl, rfl⟩ | ⟨hov, rfl, rfl, rfl⟩) -
          · skip
            refine bn ?_
            refine tn ?_
            refine ccell 10 2 (.op 11 true) rfl rfl (fun M ρ v h => ptr_op h) ?_
            have hwl2 := ws_len hlive.1 hp
            refine r0 ?_
            refine sA 158 109 1 rfl rfl rfl rfl rfl rfl rfl rfl rfl (by unfold inRange; omega) ?_
            refine s1 47 117 2 rfl rfl rfl rfl rfl rfl trivial ?_
            refine e1 125 rfl ?_
            refine tn ?_
            exact again (((k + 1, p.2, out, ⟨x0, c0⟩, ⟨x1, c1⟩, ⟨x2, some (C, p.1)⟩) : Nat × (List Int) × (List Ev) × TS × TS × TS)) [0, 1, 2, 3, 4, 5, 6, 7, 8, 9, 10, 11, 101] (show (k + 1) ≤ sc.length ∧ prun q (sc.drop (k + 1)) (k + 1) ⟨(p.2), (out), [(⟨x0, c0⟩), (⟨x1, c1⟩), (⟨x2, some (C, p.1)⟩)]⟩ = prun q sc 0 (pinit q) ∧ (p.2).length = q.ws.length ∧ (out).length ≤ 2 * (k + 1) ∧ TSok q 0 (⟨x0, c0⟩) ∧ TSok q 1 (⟨x1, c1⟩) ∧ TSok q 2 (⟨x2, some (C, p.1)⟩) from ⟨by omega, (by rw [← hrun, prun_at (k := k) (by omega), hv, Int.toNat_natCast, pstep_eq (pb_go.trans (pgo_alive hp hov))]; rfl), hwl2.trans hwl, (by omega), hs0, hs1, ok_alive hlive.1 (by simp only [] at hx20; have := hlive.2; omega) hp⟩) (show sc.length - (k + 1) < sc.length - k from (by omega)) (by rcases c0 with _ | ⟨D0, u0⟩ <;> rcases c1 with _ | ⟨D1, u1⟩ <;> rfl) ⟨rfl, rfl, rfl, rfl, rfl, rfl, rfl, trivial⟩ (by rcases c0 with _ | ⟨D0, u0⟩ <;> rcases c1 with _ | ⟨D1, u1⟩ <;> (repeat' first | exact trivial | refine ⟨rfl, ?_⟩))
          refine bn ?_
          refine tn ?_
          refine ccell 10 2 (.op 11 false) rfl rfl (fun M ρ v h => nil_op h) ?_
          have hwl2 := ws_len hlive.1 hp
          refine r0 ?_
          refine sA 158 109 1 rfl rfl rfl rfl rfl rfl rfl rfl rfl (by unfold inRange; omega) ?_
          refine s1 47 117 2 rfl rfl rfl rfl rfl rfl trivial ?_
          refine e1 125 rfl ?_
          refine tn ?_
          exact again (((k + 1, p.2, (out ++ [(Ev.mk k ((2 : Nat) : Int) (x2 - 1) true p.1.e p.1.told)]), ⟨x0, c0⟩, ⟨x1, c1⟩, ⟨x2, none⟩) : Nat × (List Int) × (List Ev) × TS × TS × TS)) [0, 1, 101, 3, 4, 5, 6, 7, 8, 9, 10, 11, 12] (show (k + 1) ≤ sc.length ∧ prun q (sc.drop (k + 1)) (k + 1) ⟨(p.2), ((out ++ [(Ev.mk k ((2 : Nat) : Int) (x2 - 1) true p.1.e p.1.told)])), [(⟨x0, c0⟩), (⟨x1, c1⟩), (⟨x2, none⟩)]⟩ = prun q sc 0 (pinit q) ∧ (p.2).length = q.ws.length ∧ ((out ++ [(Ev.mk k ((2 : Nat) : Int) (x2 - 1) true p.1.e p.1.told)])).length ≤ 2 * (k + 1) ∧ TSok q 0 (⟨x0, c0⟩) ∧ TSok q 1 (⟨x1, c1⟩) ∧ TSok q 2 (⟨x2, none⟩) from ⟨by omega, (by rw [← hrun, prun_at (k := k) (by omega), hv, Int.toNat_natCast, pstep_eq (pb_go.trans (pgo_over hp hov))]; rfl), hwl2.trans hwl, (by simp only [List.length_append, List.length_singleton]; omega), hs0, hs1, ok_over hx20⟩) (show sc.length - (k + 1) < sc.length - k from (by omega)) (by rcases c0 with _ | ⟨D0, u0⟩ <;> rcases c1 with _ | ⟨D1, u1⟩ <;> rfl) ⟨rfl, rfl, rfl, rfl, rfl, rfl, rfl, trivial⟩ (by rcases c0 with _ | ⟨D0, u0⟩ <;> rcases c1 with _ | ⟨D1, u1⟩ <;> (repeat' first | exact trivial | refine ⟨rfl, ?_⟩))
        try simp only [cs, ne_eq] at hc16
        refine W_exit ?_
        refine tx ?_
        refine tx ?_
        refine bx ?_
        refine tn ?_
        refine r1 ?_
        refine s1 159 21 1 rfl rfl rfl rfl rfl rfl trivial ?_
        refine s1 160 29 2 rfl rfl rfl rfl rfl rfl trivial ?_
        refine s1 4 37 3 rfl rfl rfl rfl rfl rfl trivial ?_
        refine s1 5 45 4 rfl rfl rfl rfl rfl rfl trivial ?_
        refine s1 6 53 5 rfl rfl rfl rfl rfl rfl trivial ?_
        refine e1 61 rfl ?_
        refine keep [4, 5, 6] rfl ?_
        refine freeze 4 2 out.length rfl rfl (Nat.le_refl _) ?_
        refine freeze 5 1 ws.length rfl rfl (Nat.le_refl _) ?_
        refine W_ret ?_
        obtain rfl : k = sc.length := (by omega)
        have hr := hp0.symm.trans (pl_run hM (by omega) hB (hrun.symm.trans (by rw [List.drop_length, prun])))
        exact out3 4 5 6 (evV R0.out) (intsV R0.ws) (SV.i R0.e) (π := []) (hout := []) Tryd.results20 rfl rfl rfl (by rw [hr]; rfl) (by rw [hr]; rfl) (by rw [hr]; rfl) rfl rfl trivial ⟨rfl, rfl⟩
      exact absurd hc10 (by decide)
    exact absurd hc10 (by decide)
  exact absurd hc10 (by decide)

end Go.Proofs.YtnnjobmiepnedaaDoor.Nice
