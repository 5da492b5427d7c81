/- run.Play with 1 threads. -/
import Derived.Test.YtnnjobmiepnedaaDoorPlayQ
namespace Go.Proofs.YtnnjobmiepnedaaDoor.Nice
open Go
set_option linter.unusedVariables false
set_option linter.unusedSimpArgs false
set_option maxRecDepth 100000
set_option maxHeartbeats 4000000

theorem play_1 (q : Mach) (hq : q.ok) (hn : q.ts.length = 1) (sc : List Int) (hsc : sc.length ≤ 9223372036854775807) (R0 : PRes) (hp0 : played q sc = R0) : Spec Tryd.prog GV 20 [machS q, intsV sc] [] (fun r ho => r = SV.tup [evV R0.out, intsV R0.ws, SV.i R0.e] ∧ ho = []) := by
  refine start 161 0 Tryd.func20 rfl rfl rfl rfl ?_
  refine r1 ?_
  refine s1 2 0 1 rfl rfl rfl rfl rfl rfl trivial ?_
  refine s1 4 8 2 rfl rfl rfl rfl rfl rfl trivial ?_
  refine s1 5 16 3 rfl rfl rfl rfl rfl rfl trivial ?_
  refine s1 6 24 4 rfl rfl rfl rfl rfl rfl trivial ?_
  refine e1 32 rfl ?_
  refine keep [1, 2] rfl ?_
  refine W_seq ?_
  refine W_block ?_
  refine r1 ?_
  refine s1 17 32 1 rfl rfl rfl rfl rfl rfl (by first | trivial | omega) ?_
  refine c1 (mach_any q hq) [] [] 18 40 2 rfl rfl rfl rfl rfl rfl rfl rfl Tryd.func30 rfl rfl rfl rfl trivial rfl rfl ?_
  refine s1 19 48 3 rfl rfl rfl rfl rfl rfl trivial ?_
  refine s1 16 56 4 rfl rfl rfl rfl rfl rfl trivial ?_
  refine e1 64 rfl ?_
  refine keep [1, 2, 16] rfl ?_
  refine q1 rfl (fun hc1 => ?_) (fun hc1 => ?_)
  · skip
    try simp only [cs, ne_eq] at hc1
    refine r1 ?_
    refine s1 4 64 1 rfl rfl rfl rfl rfl rfl trivial ?_
    refine s1 5 72 2 rfl rfl rfl rfl rfl rfl trivial ?_
    refine s1 6 80 3 rfl rfl rfl rfl rfl rfl trivial ?_
    refine e1 88 rfl ?_
    refine keep [4, 5, 6] rfl ?_
    refine nilv 4 6 (evF []) rfl ?_
    refine nilv 5 1 (intsF []) rfl ?_
    refine W_ret ?_
    refine br ?_
    refine tr ?_
    have hr := hp0.symm.trans (pl_form hc1)
    exact out3 4 5 6 (evV R0.out) (intsV R0.ws) (SV.i R0.e) (π := []) (hout := []) Tryd.results20 rfl rfl rfl (by rw [hr]; rfl) (by rw [hr]; rfl) (by rw [hr]; rfl) rfl rfl trivial ⟨rfl, rfl⟩
  · skip
    try simp only [cs, ne_eq] at hc1
    refine r1 ?_
    refine s1 21 64 1 rfl rfl rfl rfl rfl rfl trivial ?_
    refine s1 22 72 2 rfl rfl rfl rfl rfl rfl (by first | trivial | omega) ?_
    refine s1 23 80 3 rfl rfl rfl rfl rfl rfl (by first | trivial | omega) ?_
    refine s1 20 88 4 rfl rfl rfl rfl rfl rfl trivial ?_
    refine e1 96 rfl ?_
    refine keep [1, 2, 20] rfl ?_
    refine q1 rfl (fun hc3 => ?_) (fun hc3 => ?_)
    · skip
      try simp only [cs, ne_eq] at hc3
      refine r1 ?_
      refine s1 4 96 1 rfl rfl rfl rfl rfl rfl trivial ?_
      refine s1 5 104 2 rfl rfl rfl rfl rfl rfl trivial ?_
      refine s1 6 112 3 rfl rfl rfl rfl rfl rfl trivial ?_
      refine e1 120 rfl ?_
      refine keep [4, 5, 6] rfl ?_
      refine nilv 4 6 (evF []) rfl ?_
      refine nilv 5 1 (intsF []) rfl ?_
      refine W_ret ?_
      refine br ?_
      refine tr ?_
      have hr := hp0.symm.trans (pl_size hc1 (by omega))
      exact out3 4 5 6 (evV R0.out) (intsV R0.ws) (SV.i R0.e) (π := []) (hout := []) Tryd.results20 rfl rfl rfl (by rw [hr]; rfl) (by rw [hr]; rfl) (by rw [hr]; rfl) rfl rfl trivial ⟨rfl, rfl⟩
    · skip
      try simp only [cs, ne_eq] at hc3
      refine r1 ?_
      refine s1 25 96 1 rfl rfl rfl rfl rfl rfl trivial ?_
      refine s1 26 104 2 rfl rfl rfl rfl rfl rfl trivial ?_
      refine c1 (containsI_any q sc hsc) [0] [0] 27 112 3 rfl rfl rfl rfl rfl rfl rfl rfl Tryd.func41 rfl rfl rfl rfl ⟨rfl, trivial⟩ rfl rfl ?_
      refine s1 24 120 4 rfl rfl rfl rfl rfl rfl trivial ?_
      refine e1 128 rfl ?_
      refine keep [1, 2, 24] rfl ?_
      refine q1 rfl (fun hc5 => ?_) (fun hc5 => ?_)
      · skip
        try simp only [cs, ne_eq] at hc5
        refine r1 ?_
        refine s1 4 128 1 rfl rfl rfl rfl rfl rfl trivial ?_
        refine s1 5 136 2 rfl rfl rfl rfl rfl rfl trivial ?_
        refine s1 6 144 3 rfl rfl rfl rfl rfl rfl trivial ?_
        refine e1 152 rfl ?_
        refine keep [4, 5, 6] rfl ?_
        refine nilv 4 6 (evF []) rfl ?_
        refine nilv 5 1 (intsF []) rfl ?_
        refine W_ret ?_
        refine br ?_
        refine tr ?_
        have hr := hp0.symm.trans (pl_range hc1 (by omega) hc5)
        exact out3 4 5 6 (evV R0.out) (intsV R0.ws) (SV.i R0.e) (π := []) (hout := []) Tryd.results20 rfl rfl rfl (by rw [hr]; rfl) (by rw [hr]; rfl) (by rw [hr]; rfl) rfl rfl trivial ⟨rfl, rfl⟩
      · skip
        try simp only [cs, ne_eq] at hc5
        refine W_skip ?_
        refine bn ?_
        refine tn ?_
        have hM := hc1
        have hB := hc5
        have hMw := mach_ws hM
        refine r1 ?_
        refine s1 28 128 1 rfl rfl rfl rfl rfl rfl trivial ?_
        refine s1 29 136 2 rfl rfl rfl rfl rfl rfl (by first | trivial | omega) ?_
        refine c1 (clone_any q.ws (by have := mach_ws hM; omega)) [] [144] 30 144 3 rfl rfl rfl rfl rfl rfl rfl rfl Tryd.func43 rfl rfl rfl rfl trivial rfl rfl ?_
        refine s1 7 152 4 rfl rfl rfl rfl rfl rfl trivial ?_
        refine e1 160 rfl ?_
        refine keep [1, 2, 7] rfl ?_
        refine r1 ?_
        refine s1 8 160 1 rfl rfl rfl rfl rfl rfl trivial ?_
        refine e1 168 rfl ?_
        refine keep [1, 2, 7, 8] rfl ?_
        refine W_seq ?_
        refine r1 ?_
        refine s1 31 168 1 rfl rfl rfl rfl rfl rfl trivial ?_
        refine s1 32 176 2 rfl rfl rfl rfl rfl rfl (by first | trivial | omega) ?_
        refine s1 33 184 3 rfl rfl rfl rfl rfl rfl (by first | trivial | omega) ?_
        refine val 33 (SV.i 1) rfl (by rw [hn]; rfl) ?_
        refine s1 34 192 4 rfl rfl rfl rfl rfl rfl trivial ?_
        refine e1 200 rfl ?_
        refine keep [1, 2, 7, 8, 32, 33, 34] rfl ?_
        refine W_block ?_
        refine W_unroll 2 ?_
        refine unr ?_
        refine r1 ?_
        refine s1 35 200 1 rfl rfl rfl rfl rfl rfl (by first | trivial | omega) ?_
        refine e1 208 rfl ?_
        refine keep [1, 2, 7, 8, 32, 33, 34, 35] rfl ?_
        refine W_seq ?_
        refine q1 rfl (fun hc10 => ?_) (fun hc10 => ?_)
        · skip
          try simp only [cs, ne_eq] at hc10
          refine W_skip ?_
          refine tn ?_
          refine W_seq ?_
          refine W_block ?_
          refine r1 ?_
          refine s1 36 208 1 rfl rfl rfl rfl rfl rfl (by rw [hn]; decide) ?_
          refine s1 37 216 2 rfl rfl rfl rfl rfl rfl (by rw [hn]; decide) ?_
          refine s1 10 224 3 rfl rfl rfl rfl rfl rfl trivial ?_
          refine e1 232 rfl ?_
          refine keep [1, 2, 7, 8, 10, 32, 33, 34] rfl ?_
          refine r0 ?_
          refine s1 38 232 1 rfl rfl rfl rfl rfl rfl trivial ?_
          refine s1 39 240 2 rfl rfl rfl rfl rfl rfl trivial ?_
          refine s1 40 248 3 rfl rfl rfl rfl rfl rfl trivial ?_
          refine s1 41 256 4 rfl rfl rfl rfl rfl rfl trivial ?_
          refine s1 42 264 5 rfl rfl rfl rfl rfl rfl trivial ?_
          refine s1 43 272 6 rfl rfl rfl rfl rfl rfl (by decide) ?_
          refine s1 8 280 7 rfl rfl rfl rfl rfl rfl trivial ?_
          refine e1 288 rfl ?_
          refine bn ?_
          refine tn ?_
          refine r0 ?_
          refine sA 44 288 1 rfl rfl rfl rfl rfl rfl rfl rfl rfl (by unfold inRange; omega) ?_
          refine s1 34 296 2 rfl rfl rfl rfl rfl rfl trivial ?_
          refine e1 304 rfl ?_
          refine tn ?_
          refine unr ?_
          refine r1 ?_
          refine s1 35 304 1 rfl rfl rfl rfl rfl rfl (by first | trivial | omega) ?_
          refine e1 312 rfl ?_
          refine keep [1, 2, 7, 8, 32, 33, 34, 35] rfl ?_
          refine W_seq ?_
          refine q1 rfl (fun hc10 => ?_) (fun hc10 => ?_)
          · skip
            exact absurd hc10 (by decide)
          · skip
            try simp only [cs, ne_eq] at hc10
            refine W_exit ?_
            refine tx ?_
            refine tx ?_
            refine bx ?_
            refine tn ?_
            refine r1 ?_
            refine s1 11 312 1 rfl rfl rfl rfl rfl rfl trivial ?_
            refine e1 320 rfl ?_
            refine keep [1, 2, 7, 8, 11] rfl ?_
            refine W_seq ?_
            refine r1 ?_
            refine s1 45 320 1 rfl rfl rfl rfl rfl rfl trivial ?_
            refine s1 46 328 2 rfl rfl rfl rfl rfl rfl (by first | trivial | omega) ?_
            refine s1 47 336 3 rfl rfl rfl rfl rfl rfl trivial ?_
            refine e1 344 rfl ?_
            refine keep [2, 7, 8, 11, 45, 46, 47] rfl ?_
            refine W_block ?_
            refine ccell 256 2 (.op 90000 false) rfl rfl (fun M ρ v h => nil_op h) ?_
            refine ghostly 11 50 6 (evF []) rfl ?_
            refine loop (α := Nat × (List Int) × (List Ev) × TS) 7 (fun z => [(2, .ptr 0 0 0), (7, .sl 1 0 (z.2.1).length), (8, .sl 3 0 1), (11, .sl 2 0 (z.2.2.1).length), (45, intsV sc), (46, SV.i sc.length), (47, SV.i (z.1))]) (fun z => [some (machBlk q), some (intsB (z.2.1)), some (evB (z.2.2.1)), some (.cells 80 1 [.ptr 4 0 0]), some (.cells 83 3 [callV (q.ts.getD 0 []), SV.i (z.2.2.2).nx, .op 5 (z.2.2.2).cur.isSome]), thrO 6 (z.2.2.2).cur, toldO (z.2.2.2).cur]) (fun z => (z.1) ≤ sc.length ∧ prun q (sc.drop (z.1)) (z.1) ⟨(z.2.1), (z.2.2.1), [(z.2.2.2)]⟩ = prun q sc 0 (pinit q) ∧ (z.2.1).length = q.ws.length ∧ (z.2.2.1).length ≤ 2 * (z.1) ∧ TSok q 0 (z.2.2.2)) (fun z => sc.length - (z.1)) (((0, q.ws, [], ⟨0, none⟩) : Nat × (List Int) × (List Ev) × TS)) [0, 144, 344, 272, 256, 90000, 90001] (fun _ => rfl) (show (0) ≤ sc.length ∧ prun q (sc.drop (0)) (0) ⟨(q.ws), ([]), [(⟨0, none⟩)]⟩ = prun q sc 0 (pinit q) ∧ (q.ws).length = q.ws.length ∧ ([]).length ≤ 2 * (0) ∧ TSok q 0 (⟨0, none⟩) from ⟨by omega, by rw [pinit_n hn]; rfl, rfl, by simp, ok_init q 0⟩) rfl ⟨rfl, rfl, rfl, rfl, rfl, rfl, rfl, trivial⟩ ⟨rfl, rfl, rfl, rfl, rfl, trivial⟩ (fun z hx => ?_)
            obtain ⟨k, ws, out, s0⟩ := z
            show W _ _ _ ⟨tOf [(2, .ptr 0 0 0), (7, .sl 1 0 ws.length), (8, .sl 3 0 1), (11, .sl 2 0 out.length), (45, intsV sc), (46, SV.i sc.length), (47, SV.i k)], hOf [some (machBlk q), some (intsB ws), some (evB out), some (.cells 80 1 [.ptr 4 0 0]), some (.cells 83 3 [callV (q.ts.getD 0 []), SV.i s0.nx, .op 5 s0.cur.isSome]), thrO 6 s0.cur, toldO s0.cur], 7⟩
            have hx : k ≤ sc.length ∧ prun q (sc.drop k) k ⟨ws, out, [s0]⟩ = prun q sc 0 (pinit q) ∧ ws.length = q.ws.length ∧ out.length ≤ 2 * k ∧ TSok q 0 s0 := hx
            obtain ⟨hk, hrun, hwl, hol, hs0⟩ := hx
            obtain ⟨x0, c0⟩ := s0
            have hq20_0 := thr_short hM 0
            refine r1 ?_
            refine s1 48 7 1 rfl rfl rfl rfl rfl rfl (by first | trivial | omega) ?_
            refine e1 15 rfl ?_
            refine keep [2, 7, 8, 11, 45, 46, 47, 48] rfl ?_
            refine W_seq ?_
            refine q1 rfl (fun hc16 => ?_) (fun hc16 => ?_)
            · skip
              try simp only [cs, ne_eq] at hc16
              refine W_skip ?_
              refine tn ?_
              refine W_seq ?_
              refine W_block ?_
              refine r1 ?_
              refine s1 49 15 1 rfl rfl rfl rfl rfl rfl trivial ?_
              refine s1 50 23 2 rfl rfl rfl rfl rfl rfl (by first | trivial | omega) ?_
              refine s1 51 31 3 rfl rfl rfl rfl rfl rfl (by omega) ?_
              refine val 51 (SV.i (sc.getD k 0)) rfl (by simp only [Int.toNat_natCast]) ?_
              refine s1 12 39 4 rfl rfl rfl rfl rfl rfl trivial ?_
              refine s1 13 47 5 rfl rfl rfl rfl rfl rfl trivial ?_
              refine e1 55 rfl ?_
              refine keep [2, 7, 8, 11, 12, 13, 45, 46, 47] rfl ?_
              have hin := sched_in hB (show k < sc.length by omega)
              have hv : sc.getD k 0 = ((0 : Nat) : Int) := (by omega)
              refine cval 13 (SV.i ((0 : Nat) : Int)) rfl (by rw [hv]) ?_
              refine r1 ?_
              refine s1 52 55 1 rfl rfl rfl rfl rfl rfl trivial ?_
              refine s1 53 63 2 rfl rfl rfl rfl rfl rfl trivial ?_
              refine s1 54 71 3 rfl rfl rfl rfl rfl rfl (by first | trivial | omega) ?_
              refine s1 55 79 4 rfl rfl rfl rfl rfl rfl (by first | trivial | omega) ?_
              refine s1 14 87 5 rfl rfl rfl rfl rfl rfl trivial ?_
              refine e1 95 rfl ?_
              refine keep [2, 7, 8, 11, 12, 13, 14, 45, 46, 47] rfl ?_
              rcases c0 with _ | ⟨C, t⟩
              · skip
                refine ccell 4 2 (.d (.val (.pointer none))) rfl rfl (fun M ρ v h => op_nil h) ?_
                have hx20 := hs0.nx
                obtain ⟨p, hp⟩ : ∃ p, vstep (codeOf q 0 x0) ws (vnew (codeOf q 0 x0) (callAt q 0 x0).args) = p := ⟨_, rfl⟩
                refine W_focus [0, 1, 2, 4] [3] [(2, .ptr 0 0 0), (7, .sl 1 0 ws.length), (8, .sl 4 0 1), (11, .sl 2 0 out.length), (12, SV.i k), (13, SV.i ((0 : Nat) : Int)), (14, .ptr 3 0 0), (45, intsV sc), (46, SV.i sc.length), (47, SV.i k)] [machBlk q, intsB ws, evB out, .cells 83 3 [callV (q.ts.getD 0 []), SV.i x0, .d (.val (.pointer none))]] (playA q hM ws out x0 1 sc k k 0 (by omega) (by omega) (by omega) (by simp only [] at hx20; omega) p hp) rfl ⟨rfl, rfl, rfl, rfl, rfl, rfl, rfl, rfl, rfl, rfl, trivial⟩ ⟨rfl, rfl, rfl, rfl, trivial⟩ ?_
                rintro e tl' hout (⟨hlt, rfl, rfl, rfl⟩ | ⟨hlt, hov, rfl, rfl, rfl⟩ | ⟨hlt, hov, rfl, rfl, rfl⟩) -
                · skip
                  refine bx ?_
                  refine tn ?_
                  refine ccell 4 2 (.op 5 false) rfl rfl (fun M ρ v h => nil_op h) ?_
                  refine r0 ?_
                  refine sA 158 103 1 rfl rfl rfl rfl rfl rfl rfl rfl rfl (by unfold inRange; omega) ?_
                  refine s1 47 111 2 rfl rfl rfl rfl rfl rfl trivial ?_
                  refine e1 119 rfl ?_
                  refine tn ?_
                  exact again (((k + 1, ws, out, ⟨x0, none⟩) : Nat × (List Int) × (List Ev) × TS)) [0, 1, 2, 3, 4, 5, 6] (show (k + 1) ≤ sc.length ∧ prun q (sc.drop (k + 1)) (k + 1) ⟨(ws), (out), [(⟨x0, none⟩)]⟩ = prun q sc 0 (pinit q) ∧ (ws).length = q.ws.length ∧ (out).length ≤ 2 * (k + 1) ∧ TSok q 0 (⟨x0, none⟩) from ⟨by omega, (by rw [← hrun, prun_at (k := k) (by omega), hv, Int.toNat_natCast, pstep_eq (pb_idle hlt)]; rfl), hwl, (by omega), hs0⟩) (show sc.length - (k + 1) < sc.length - k from (by omega)) (by rfl) ⟨rfl, rfl, rfl, rfl, rfl, rfl, rfl, trivial⟩ (by (repeat' first | exact trivial | refine ⟨rfl, ?_⟩))
                · skip
                  refine bn ?_
                  refine tn ?_
                  refine ccell 4 2 (.op 96 true) rfl rfl (fun M ρ v h => ptr_op h) ?_
                  have hwl2 := ws_len (⟨(mach_calls hM (by omega) x0 hx20.1 hlt).2.2.2, vnew_ok⟩ : Live ws.length _ (vnew (codeOf q 0 x0) (callAt q 0 x0).args) ws) hp
                  refine r0 ?_
                  refine sA 158 103 1 rfl rfl rfl rfl rfl rfl rfl rfl rfl (by unfold inRange; omega) ?_
                  refine s1 47 111 2 rfl rfl rfl rfl rfl rfl trivial ?_
                  refine e1 119 rfl ?_
                  refine tn ?_
                  exact again (((k + 1, p.2, (out ++ [(Ev.mk k ((0 : Nat) : Int) x0 false 0 [])]), ⟨x0 + 1, some ((codeOf q 0 x0), p.1)⟩) : Nat × (List Int) × (List Ev) × TS)) [0, 1, 95, 3, 4, 96, 97] (show (k + 1) ≤ sc.length ∧ prun q (sc.drop (k + 1)) (k + 1) ⟨(p.2), ((out ++ [(Ev.mk k ((0 : Nat) : Int) x0 false 0 [])])), [(⟨x0 + 1, some ((codeOf q 0 x0), p.1)⟩)]⟩ = prun q sc 0 (pinit q) ∧ (p.2).length = q.ws.length ∧ ((out ++ [(Ev.mk k ((0 : Nat) : Int) x0 false 0 [])])).length ≤ 2 * (k + 1) ∧ TSok q 0 (⟨x0 + 1, some ((codeOf q 0 x0), p.1)⟩) from ⟨by omega, (by rw [← hrun, prun_at (k := k) (by omega), hv, Int.toNat_natCast, pstep_eq ((pb_begin hlt).trans (pgo_alive hp hov))]; rfl), hwl2.trans hwl, (by simp only [List.length_append, List.length_singleton]; omega), ok_alive (⟨(mach_calls hM (by omega) x0 hx20.1 hlt).2.2.2, vnew_ok⟩ : Live ws.length _ _ ws) (by simp only [] at hx20; omega) hp⟩) (show sc.length - (k + 1) < sc.length - k from (by omega)) (by rfl) ⟨rfl, rfl, rfl, rfl, rfl, rfl, rfl, trivial⟩ (by (repeat' first | exact trivial | refine ⟨rfl, ?_⟩))
                · skip
                  refine bn ?_
                  refine tn ?_
                  refine ccell 4 2 (.op 5 false) rfl rfl (fun M ρ v h => nil_op h) ?_
                  have hwl2 := ws_len (⟨(mach_calls hM (by omega) x0 hx20.1 hlt).2.2.2, vnew_ok⟩ : Live ws.length _ (vnew (codeOf q 0 x0) (callAt q 0 x0).args) ws) hp
                  refine r0 ?_
                  refine sA 158 103 1 rfl rfl rfl rfl rfl rfl rfl rfl rfl (by unfold inRange; omega) ?_
                  refine s1 47 111 2 rfl rfl rfl rfl rfl rfl trivial ?_
                  refine e1 119 rfl ?_
                  refine tn ?_
                  exact again (((k + 1, p.2, ((out ++ [(Ev.mk k ((0 : Nat) : Int) x0 false 0 [])]) ++ [(Ev.mk k ((0 : Nat) : Int) (x0 + 1 - 1) true p.1.e p.1.told)]), ⟨x0 + 1, none⟩) : Nat × (List Int) × (List Ev) × TS)) [0, 1, 95, 3, 4, 5, 6] (show (k + 1) ≤ sc.length ∧ prun q (sc.drop (k + 1)) (k + 1) ⟨(p.2), (((out ++ [(Ev.mk k ((0 : Nat) : Int) x0 false 0 [])]) ++ [(Ev.mk k ((0 : Nat) : Int) (x0 + 1 - 1) true p.1.e p.1.told)])), [(⟨x0 + 1, none⟩)]⟩ = prun q sc 0 (pinit q) ∧ (p.2).length = q.ws.length ∧ (((out ++ [(Ev.mk k ((0 : Nat) : Int) x0 false 0 [])]) ++ [(Ev.mk k ((0 : Nat) : Int) (x0 + 1 - 1) true p.1.e p.1.told)])).length ≤ 2 * (k + 1) ∧ TSok q 0 (⟨x0 + 1, none⟩) from ⟨by omega, (by rw [← hrun, prun_at (k := k) (by omega), hv, Int.toNat_natCast, pstep_eq ((pb_begin hlt).trans (pgo_over hp hov))]; rfl), hwl2.trans hwl, (by simp only [List.length_append, List.length_singleton]; omega), ok_over (by simp only [] at hx20; omega)⟩) (show sc.length - (k + 1) < sc.length - k from (by omega)) (by rfl) ⟨rfl, rfl, rfl, rfl, rfl, rfl, rfl, trivial⟩ (by (repeat' first | exact trivial | refine ⟨rfl, ?_⟩))
              · skip
                refine ccell 4 2 (.ptr 5 0 0) rfl rfl (fun M ρ v h => op_ptr h) ?_
                have hlive := live_of (ws := ws) hs0
                have hx20 := hs0.nx
                obtain ⟨p, hp⟩ : ∃ p, vstep C ws t = p := ⟨_, rfl⟩
                refine W_focus [0, 1, 2, 4, 5, 6] [3] [(2, .ptr 0 0 0), (7, .sl 1 0 ws.length), (8, .sl 6 0 1), (11, .sl 2 0 out.length), (12, SV.i k), (13, SV.i ((0 : Nat) : Int)), (14, .ptr 3 0 0), (45, intsV sc), (46, SV.i sc.length), (47, SV.i k)] [machBlk q, intsB ws, evB out, .cells 83 3 [callV (q.ts.getD 0 []), SV.i x0, .ptr 4 0 0], thrYB 5 C t, intsB t.told] (playC q ws out (q.ts.getD 0 []) x0 C t 1 sc k k ((0 : Nat) : Int) hlive.1 (by omega) (by omega) (by simp only [] at hx20; have := hlive.2; omega) p hp) rfl ⟨rfl, rfl, rfl, rfl, rfl, rfl, rfl, rfl, rfl, rfl, trivial⟩ ⟨rfl, rfl, rfl, rfl, rfl, rfl, trivial⟩ ?_
                rintro e tl' hout (⟨hov, rfl, rfl, rfl⟩ | ⟨hov, rfl, rfl, rfl⟩) -
                · skip
                  refine bn ?_
                  refine tn ?_
                  refine ccell 4 2 (.op 5 true) rfl rfl (fun M ρ v h => ptr_op h) ?_
                  have hwl2 := ws_len hlive.1 hp
                  refine r0 ?_
                  refine sA 158 103 1 rfl rfl rfl rfl rfl rfl rfl rfl rfl (by unfold inRange; omega) ?_
                  refine s1 47 111 2 rfl rfl rfl rfl rfl rfl trivial ?_
                  refine e1 119 rfl ?_
                  refine tn ?_
                  exact again (((k + 1, p.2, out, ⟨x0, some (C, p.1)⟩) : Nat × (List Int) × (List Ev) × TS)) [0, 1, 2, 3, 4, 5, 95] (show (k + 1) ≤ sc.length ∧ prun q (sc.drop (k + 1)) (k + 1) ⟨(p.2), (out), [(⟨x0, some (C, p.1)⟩)]⟩ = prun q sc 0 (pinit q) ∧ (p.2).length = q.ws.length ∧ (out).length ≤ 2 * (k + 1) ∧ TSok q 0 (⟨x0, some (C, p.1)⟩) from ⟨by omega, (by rw [← hrun, prun_at (k := k) (by omega), hv, Int.toNat_natCast, pstep_eq (pb_go.trans (pgo_alive hp hov))]; rfl), hwl2.trans hwl, (by omega), ok_alive hlive.1 (by simp only [] at hx20; have := hlive.2; omega) hp⟩) (show sc.length - (k + 1) < sc.length - k from (by omega)) (by rfl) ⟨rfl, rfl, rfl, rfl, rfl, rfl, rfl, trivial⟩ (by (repeat' first | exact trivial | refine ⟨rfl, ?_⟩))
                · skip
                  refine bn ?_
                  refine tn ?_
                  refine ccell 4 2 (.op 5 false) rfl rfl (fun M ρ v h => nil_op h) ?_
                  have hwl2 := ws_len hlive.1 hp
                  refine r0 ?_
                  refine sA 158 103 1 rfl rfl rfl rfl rfl rfl rfl rfl rfl (by unfold inRange; omega) ?_
                  refine s1 47 111 2 rfl rfl rfl rfl rfl rfl trivial ?_
                  refine e1 119 rfl ?_
                  refine tn ?_
                  exact again (((k + 1, p.2, (out ++ [(Ev.mk k ((0 : Nat) : Int) (x0 - 1) true p.1.e p.1.told)]), ⟨x0, none⟩) : Nat × (List Int) × (List Ev) × TS)) [0, 1, 95, 3, 4, 5, 6] (show (k + 1) ≤ sc.length ∧ prun q (sc.drop (k + 1)) (k + 1) ⟨(p.2), ((out ++ [(Ev.mk k ((0 : Nat) : Int) (x0 - 1) true p.1.e p.1.told)])), [(⟨x0, none⟩)]⟩ = prun q sc 0 (pinit q) ∧ (p.2).length = q.ws.length ∧ ((out ++ [(Ev.mk k ((0 : Nat) : Int) (x0 - 1) true p.1.e p.1.told)])).length ≤ 2 * (k + 1) ∧ TSok q 0 (⟨x0, none⟩) from ⟨by omega, (by rw [← hrun, prun_at (k := k) (by omega), hv, Int.toNat_natCast, pstep_eq (pb_go.trans (pgo_over hp hov))]; rfl), hwl2.trans hwl, (by simp only [List.length_append, List.length_singleton]; omega), ok_over hx20⟩) (show sc.length - (k + 1) < sc.length - k from (by omega)) (by rfl) ⟨rfl, rfl, rfl, rfl, rfl, rfl, rfl, trivial⟩ (by (repeat' first | exact trivial | refine ⟨rfl, ?_⟩))
            · skip
              try simp only [cs, ne_eq] at hc16
              refine W_exit ?_
              refine tx ?_
              refine tx ?_
              refine bx ?_
              refine tn ?_
              refine r1 ?_
              refine s1 159 15 1 rfl rfl rfl rfl rfl rfl trivial ?_
              refine s1 160 23 2 rfl rfl rfl rfl rfl rfl trivial ?_
              refine s1 4 31 3 rfl rfl rfl rfl rfl rfl trivial ?_
              refine s1 5 39 4 rfl rfl rfl rfl rfl rfl trivial ?_
              refine s1 6 47 5 rfl rfl rfl rfl rfl rfl trivial ?_
              refine e1 55 rfl ?_
              refine keep [4, 5, 6] rfl ?_
              refine freeze 4 2 out.length rfl rfl (Nat.le_refl _) ?_
              refine freeze 5 1 ws.length rfl rfl (Nat.le_refl _) ?_
              refine W_ret ?_
              obtain rfl : k = sc.length := (by omega)
              have hr := hp0.symm.trans (pl_run hM (by omega) hB (hrun.symm.trans (by rw [List.drop_length, prun])))
              exact out3 4 5 6 (evV R0.out) (intsV R0.ws) (SV.i R0.e) (π := []) (hout := []) Tryd.results20 rfl rfl rfl (by rw [hr]; rfl) (by rw [hr]; rfl) (by rw [hr]; rfl) rfl rfl trivial ⟨rfl, rfl⟩
        · skip
          exact absurd hc10 (by decide)

end Go.Proofs.YtnnjobmiepnedaaDoor.Nice
