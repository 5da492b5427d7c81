/- run.Play with 0 threads. -/
import Derived.Test.YtnnjobmiepnedaaDoorPlayQ
namespace Go.Proofs.YtnnjobmiepnedaaDoor.Nice
open Go
set_option linter.unusedVariables false
set_option linter.unusedSimpArgs false
set_option maxRecDepth 100000
set_option maxHeartbeats 4000000

theorem play_0 (q : Mach) (hq : q.ok) (hn : q.ts.length = 0) (sc : List Int) (hsc : sc.length ≤ 9223372036854775807) (R0 : PRes) (hp0 : played q sc = R0) : Spec Tryd.prog GV 20 [machS q, intsV sc] [] (fun r ho => r = SV.tup [evV R0.out, intsV R0.ws, SV.i R0.e] ∧ ho = []) := by
  refine start 161 0 Tryd.func20 rfl rfl rfl rfl ?_
  refine r1 ?_
  refine s1 2 0 1 rfl rfl rfl rfl rfl rfl trivial ?_
  refine s1 4 8 2 rfl rfl rfl rfl rfl rfl trivial ?_
  refine s1 5 16 3 rfl rfl rfl rfl rfl rfl trivial ?_
  refine s1 6 24 4 rfl rfl rfl rfl rfl rfl trivial ?_
  refine e1 32 rfl ?_
  refine keep [1, 2] rfl ?_
  refine W_seq ?_
  refine W_block ?_
  refine r1 ?_
  refine s1 17 32 1 rfl rfl rfl rfl rfl rfl (by first | trivial | omega) ?_
  refine c1 (mach_any q hq) [] [] 18 40 2 rfl rfl rfl rfl rfl rfl rfl rfl Tryd.func30 rfl rfl rfl rfl trivial rfl rfl ?_
  refine s1 19 48 3 rfl rfl rfl rfl rfl rfl trivial ?_
  refine s1 16 56 4 rfl rfl rfl rfl rfl rfl trivial ?_
  refine e1 64 rfl ?_
  refine keep [1, 2, 16] rfl ?_
  refine q1 rfl (fun hc1 => ?_) (fun hc1 => ?_)
  · skip
    try simp only [cs, ne_eq] at hc1
    refine r1 ?_
    refine s1 4 64 1 rfl rfl rfl rfl rfl rfl trivial ?_
    refine s1 5 72 2 rfl rfl rfl rfl rfl rfl trivial ?_
    refine s1 6 80 3 rfl rfl rfl rfl rfl rfl trivial ?_
    refine e1 88 rfl ?_
    refine keep [4, 5, 6] rfl ?_
    refine nilv 4 6 (evF []) rfl ?_
    refine nilv 5 1 (intsF []) rfl ?_
    refine W_ret ?_
    refine br ?_
    refine tr ?_
    have hr := hp0.symm.trans (pl_form hc1)
    exact out3 4 5 6 (evV R0.out) (intsV R0.ws) (SV.i R0.e) (π := []) (hout := []) Tryd.results20 rfl rfl rfl (by rw [hr]; rfl) (by rw [hr]; rfl) (by rw [hr]; rfl) rfl rfl trivial ⟨rfl, rfl⟩
  · skip
    try simp only [cs, ne_eq] at hc1
    refine r1 ?_
    refine s1 21 64 1 rfl rfl rfl rfl rfl rfl trivial ?_
    refine s1 22 72 2 rfl rfl rfl rfl rfl rfl (by first | trivial | omega) ?_
    refine s1 23 80 3 rfl rfl rfl rfl rfl rfl (by first | trivial | omega) ?_
    refine s1 20 88 4 rfl rfl rfl rfl rfl rfl trivial ?_
    refine e1 96 rfl ?_
    refine keep [1, 2, 20] rfl ?_
    refine q1 rfl (fun hc3 => ?_) (fun hc3 => ?_)
    · skip
      try simp only [cs, ne_eq] at hc3
      refine r1 ?_
      refine s1 4 96 1 rfl rfl rfl rfl rfl rfl trivial ?_
      refine s1 5 104 2 rfl rfl rfl rfl rfl rfl trivial ?_
      refine s1 6 112 3 rfl rfl rfl rfl rfl rfl trivial ?_
      refine e1 120 rfl ?_
      refine keep [4, 5, 6] rfl ?_
      refine nilv 4 6 (evF []) rfl ?_
      refine nilv 5 1 (intsF []) rfl ?_
      refine W_ret ?_
      refine br ?_
      refine tr ?_
      have hr := hp0.symm.trans (pl_size hc1 (by omega))
      exact out3 4 5 6 (evV R0.out) (intsV R0.ws) (SV.i R0.e) (π := []) (hout := []) Tryd.results20 rfl rfl rfl (by rw [hr]; rfl) (by rw [hr]; rfl) (by rw [hr]; rfl) rfl rfl trivial ⟨rfl, rfl⟩
    · skip
      try simp only [cs, ne_eq] at hc3
      refine r1 ?_
      refine s1 25 96 1 rfl rfl rfl rfl rfl rfl trivial ?_
      refine s1 26 104 2 rfl rfl rfl rfl rfl rfl trivial ?_
      refine c1 (containsI_any q sc hsc) [0] [0] 27 112 3 rfl rfl rfl rfl rfl rfl rfl rfl Tryd.func41 rfl rfl rfl rfl ⟨rfl, trivial⟩ rfl rfl ?_
      refine s1 24 120 4 rfl rfl rfl rfl rfl rfl trivial ?_
      refine e1 128 rfl ?_
      refine keep [1, 2, 24] rfl ?_
      refine q1 rfl (fun hc5 => ?_) (fun hc5 => ?_)
      · skip
        try simp only [cs, ne_eq] at hc5
        refine r1 ?_
        refine s1 4 128 1 rfl rfl rfl rfl rfl rfl trivial ?_
        refine s1 5 136 2 rfl rfl rfl rfl rfl rfl trivial ?_
        refine s1 6 144 3 rfl rfl rfl rfl rfl rfl trivial ?_
        refine e1 152 rfl ?_
        refine keep [4, 5, 6] rfl ?_
        refine nilv 4 6 (evF []) rfl ?_
        refine nilv 5 1 (intsF []) rfl ?_
        refine W_ret ?_
        refine br ?_
        refine tr ?_
        have hr := hp0.symm.trans (pl_range hc1 (by omega) hc5)
        exact out3 4 5 6 (evV R0.out) (intsV R0.ws) (SV.i R0.e) (π := []) (hout := []) Tryd.results20 rfl rfl rfl (by rw [hr]; rfl) (by rw [hr]; rfl) (by rw [hr]; rfl) rfl rfl trivial ⟨rfl, rfl⟩
      · skip
        try simp only [cs, ne_eq] at hc5
        refine W_skip ?_
        refine bn ?_
        refine tn ?_
        have hM := hc1
        have hB := hc5
        have hMw := mach_ws hM
        refine r1 ?_
        refine s1 28 128 1 rfl rfl rfl rfl rfl rfl trivial ?_
        refine s1 29 136 2 rfl rfl rfl rfl rfl rfl (by first | trivial | omega) ?_
        refine c1 (clone_any q.ws (by have := mach_ws hM; omega)) [] [144] 30 144 3 rfl rfl rfl rfl rfl rfl rfl rfl Tryd.func43 rfl rfl rfl rfl trivial rfl rfl ?_
        refine s1 7 152 4 rfl rfl rfl rfl rfl rfl trivial ?_
        refine e1 160 rfl ?_
        refine keep [1, 2, 7] rfl ?_
        refine r1 ?_
        refine s1 8 160 1 rfl rfl rfl rfl rfl rfl trivial ?_
        refine e1 168 rfl ?_
        refine keep [1, 2, 7, 8] rfl ?_
        refine W_seq ?_
        refine r1 ?_
        refine s1 31 168 1 rfl rfl rfl rfl rfl rfl trivial ?_
        refine s1 32 176 2 rfl rfl rfl rfl rfl rfl (by first | trivial | omega) ?_
        refine s1 33 184 3 rfl rfl rfl rfl rfl rfl (by first | trivial | omega) ?_
        refine val 33 (SV.i 0) rfl (by rw [hn]; rfl) ?_
        refine s1 34 192 4 rfl rfl rfl rfl rfl rfl trivial ?_
        refine e1 200 rfl ?_
        refine keep [1, 2, 7, 8, 32, 33, 34] rfl ?_
        refine W_block ?_
        refine W_unroll 1 ?_
        refine unr ?_
        refine r1 ?_
        refine s1 35 200 1 rfl rfl rfl rfl rfl rfl (by first | trivial | omega) ?_
        refine e1 208 rfl ?_
        refine keep [1, 2, 7, 8, 32, 33, 34, 35] rfl ?_
        refine W_seq ?_
        refine q1 rfl (fun hc10 => ?_) (fun hc10 => ?_)
        · skip
          exact absurd hc10 (by decide)
        · skip
          try simp only [cs, ne_eq] at hc10
          refine W_exit ?_
          refine tx ?_
          refine tx ?_
          refine bx ?_
          refine tn ?_
          refine r1 ?_
          refine s1 11 208 1 rfl rfl rfl rfl rfl rfl trivial ?_
          refine e1 216 rfl ?_
          refine keep [1, 2, 7, 8, 11] rfl ?_
          refine W_seq ?_
          refine r1 ?_
          refine s1 45 216 1 rfl rfl rfl rfl rfl rfl trivial ?_
          refine s1 46 224 2 rfl rfl rfl rfl rfl rfl (by first | trivial | omega) ?_
          refine s1 47 232 3 rfl rfl rfl rfl rfl rfl trivial ?_
          refine e1 240 rfl ?_
          refine keep [2, 7, 8, 11, 45, 46, 47] rfl ?_
          refine W_block ?_
          refine ghostly 11 50 6 (evF []) rfl ?_
          refine loop (α := Nat × (List Int) × (List Ev)) 3 (fun z => [(2, .ptr 0 0 0), (7, .sl 1 0 (z.2.1).length), (8, .d .nils), (11, .sl 2 0 (z.2.2).length), (45, intsV sc), (46, SV.i sc.length), (47, SV.i (z.1))]) (fun z => [some (machBlk q), some (intsB (z.2.1)), some (evB (z.2.2))]) (fun z => (z.1) ≤ sc.length ∧ prun q (sc.drop (z.1)) (z.1) ⟨(z.2.1), (z.2.2), []⟩ = prun q sc 0 (pinit q) ∧ (z.2.1).length = q.ws.length ∧ (z.2.2).length ≤ 2 * (z.1)) (fun z => sc.length - (z.1)) (((0, q.ws, []) : Nat × (List Int) × (List Ev))) [0, 144, 240] (fun _ => rfl) (show (0) ≤ sc.length ∧ prun q (sc.drop (0)) (0) ⟨(q.ws), ([]), []⟩ = prun q sc 0 (pinit q) ∧ (q.ws).length = q.ws.length ∧ ([]).length ≤ 2 * (0) from ⟨by omega, by rw [pinit_n hn]; rfl, rfl, by simp⟩) rfl ⟨rfl, rfl, rfl, rfl, rfl, rfl, rfl, trivial⟩ ⟨rfl, rfl, rfl, trivial⟩ (fun z hx => ?_)
          obtain ⟨k, ws, out⟩ := z
          show W _ _ _ ⟨tOf [(2, .ptr 0 0 0), (7, .sl 1 0 ws.length), (8, .d .nils), (11, .sl 2 0 out.length), (45, intsV sc), (46, SV.i sc.length), (47, SV.i k)], hOf [some (machBlk q), some (intsB ws), some (evB out)], 3⟩
          have hx : k ≤ sc.length ∧ prun q (sc.drop k) k ⟨ws, out, []⟩ = prun q sc 0 (pinit q) ∧ ws.length = q.ws.length ∧ out.length ≤ 2 * k := hx
          obtain ⟨hk, hrun, hwl, hol⟩ := hx
          refine r1 ?_
          refine s1 48 3 1 rfl rfl rfl rfl rfl rfl (by first | trivial | omega) ?_
          refine e1 11 rfl ?_
          refine keep [2, 7, 8, 11, 45, 46, 47, 48] rfl ?_
          refine W_seq ?_
          refine q1 rfl (fun hc16 => ?_) (fun hc16 => ?_)
          · skip
            try simp only [cs, ne_eq] at hc16
            refine W_skip ?_
            refine tn ?_
            refine W_seq ?_
            refine W_block ?_
            refine r1 ?_
            refine s1 49 11 1 rfl rfl rfl rfl rfl rfl trivial ?_
            refine s1 50 19 2 rfl rfl rfl rfl rfl rfl (by first | trivial | omega) ?_
            refine s1 51 27 3 rfl rfl rfl rfl rfl rfl (by omega) ?_
            refine val 51 (SV.i (sc.getD k 0)) rfl (by simp only [Int.toNat_natCast]) ?_
            refine s1 12 35 4 rfl rfl rfl rfl rfl rfl trivial ?_
            refine s1 13 43 5 rfl rfl rfl rfl rfl rfl trivial ?_
            refine e1 51 rfl ?_
            refine keep [2, 7, 8, 11, 12, 13, 45, 46, 47] rfl ?_
            have hin := sched_in hB (show k < sc.length by omega)
            exfalso; omega
          · skip
            try simp only [cs, ne_eq] at hc16
            refine W_exit ?_
            refine tx ?_
            refine tx ?_
            refine bx ?_
            refine tn ?_
            refine r1 ?_
            refine s1 159 11 1 rfl rfl rfl rfl rfl rfl trivial ?_
            refine s1 160 19 2 rfl rfl rfl rfl rfl rfl trivial ?_
            refine s1 4 27 3 rfl rfl rfl rfl rfl rfl trivial ?_
            refine s1 5 35 4 rfl rfl rfl rfl rfl rfl trivial ?_
            refine s1 6 43 5 rfl rfl rfl rfl rfl rfl trivial ?_
            refine e1 51 rfl ?_
            refine keep [4, 5, 6] rfl ?_
            refine freeze 4 2 out.length rfl rfl (Nat.le_refl _) ?_
            refine freeze 5 1 ws.length rfl rfl (Nat.le_refl _) ?_
            refine W_ret ?_
            obtain rfl : k = sc.length := (by omega)
            have hr := hp0.symm.trans (pl_run hM (by omega) hB (hrun.symm.trans (by rw [List.drop_length, prun])))
            exact out3 4 5 6 (evV R0.out) (intsV R0.ws) (SV.i R0.e) (π := []) (hout := []) Tryd.results20 rfl rfl rfl (by rw [hr]; rfl) (by rw [hr]; rfl) (by rw [hr]; rfl) rfl rfl trivial ⟨rfl, rfl⟩

end Go.Proofs.YtnnjobmiepnedaaDoor.Nice
