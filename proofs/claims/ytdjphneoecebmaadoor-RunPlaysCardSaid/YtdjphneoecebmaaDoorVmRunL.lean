/- The law VmRuns. -/
import Derived.Test.YtdjphneoecebmaaDoorVmRan
namespace Go.Proofs.YtdjphneoecebmaaDoor.Nice
open Go
set_option linter.unusedVariables false
set_option linter.unusedSimpArgs false
set_option maxRecDepth 100000
set_option maxHeartbeats 4000000
theorem vrun_ok {C : List Ins} (hC : mayB C = true) {m : Nat} : ∀ f s, ThrOk C m s → ThrOk C m (vrun C f s).2
  | 0, s, h => h
  | f + 1, s, h => by
    unfold vrun
    split
    · exact h
    · exact vrun_ok hC f _ (vstep_ok hC h)
theorem vran_len (C : List Ins) (l ws : List Int) (n : Int) : (vran C l ws n).told.length ≤ 200 ∧ (vran C l ws n).after.length ≤ 200 := by
  unfold vran
  split
  · simp
  · next hC =>
    split
    · simp
    · next h =>
      split
      · simp
      · have := vrun_ok (C := C) (by cases e : mayB C <;> simp_all) n.toNat _ (vnew_ok (C := C) (l := l) (ws := ws))
        exact ⟨this.told, by rw [show (vresOf (vrun C n.toNat (vnew C l, ws))).after = (vrun C n.toNat (vnew C l, ws)).2.2 from rfl, this.ws]; omega⟩

theorem same_self (x : List Int) (hx : x.length ≤ 1048576) : Spec Tryd.prog GV 11 [intsV x, intsV x] [] (fun r ho => r = SV.b true ∧ ho = []) := by
  refine start 26 0 Tryd.func11 rfl rfl rfl rfl ?_
  refine r1 ?_
  refine s1 4 0 1 rfl rfl rfl rfl rfl rfl trivial ?_
  refine e1 8 rfl ?_
  refine keep [0, 1] rfl ?_
  refine W_seq ?_
  refine r1 ?_
  refine s1 6 8 1 rfl rfl rfl rfl rfl rfl trivial ?_
  refine s1 7 16 2 rfl rfl rfl rfl rfl rfl (by first | trivial | omega | (simp only [List.length_map, List.length_append, List.length_cons, List.length_nil] at *; omega)) ?_
  refine s1 8 24 3 rfl rfl rfl rfl rfl rfl trivial ?_
  refine s1 9 32 4 rfl rfl rfl rfl rfl rfl (by first | trivial | omega | (simp only [List.length_map, List.length_append, List.length_cons, List.length_nil] at *; omega)) ?_
  refine s1 10 40 5 rfl rfl rfl rfl rfl rfl (by first | trivial | omega | (simp only [List.length_map, List.length_append, List.length_cons, List.length_nil] at *; omega)) ?_
  refine e1 48 rfl ?_
  refine keep [0, 1, 10] rfl ?_
  refine q1 rfl (fun hc1 => ?_) (fun hc1 => ?_)
  · skip
    exfalso; simp at hc1
  try simp only [cs, ne_eq] at hc1
  refine W_skip ?_
  refine tn ?_
  refine W_seq ?_
  refine r1 ?_
  refine s1 5 48 1 rfl rfl rfl rfl rfl rfl trivial ?_
  refine e1 56 rfl ?_
  refine keep [0, 1, 5] rfl ?_
  refine W_block ?_
  refine loop (α := Nat) 0 (fun n => [(0, intsV x), (1, intsV x), (5, SV.i (n))]) (fun n => []) (fun n => (n) ≤ x.length) (fun n => x.length - (n)) (((0) : Nat)) [] (fun _ => rfl) (show (0) ≤ x.length from (Nat.zero_le _)) rfl ⟨rfl, rfl, rfl, trivial⟩ trivial (fun n hx => ?_)
  show W _ _ _ ⟨tOf [(0, intsV x), (1, intsV x), (5, SV.i n)], hOf [], 0⟩
  have hx : n ≤ x.length := hx
  refine W_seq ?_
  refine r1 ?_
  refine s1 11 0 1 rfl rfl rfl rfl rfl rfl trivial ?_
  refine s1 12 8 2 rfl rfl rfl rfl rfl rfl trivial ?_
  refine s1 13 16 3 rfl rfl rfl rfl rfl rfl (by first | trivial | omega | (simp only [List.length_map, List.length_append, List.length_cons, List.length_nil] at *; omega)) ?_
  refine s1 14 24 4 rfl rfl rfl rfl rfl rfl (by first | trivial | omega | (simp only [List.length_map, List.length_append, List.length_cons, List.length_nil] at *; omega)) ?_
  refine e1 32 rfl ?_
  refine keep [0, 1, 5, 14] rfl ?_
  refine q1 rfl (fun hc4 => ?_) (fun hc4 => ?_)
  · skip
    try simp only [cs, ne_eq] at hc4
    refine W_skip ?_
    refine tn ?_
    refine W_seq ?_
    refine W_block ?_
    refine rd1 rfl ?_
    refine d1 17 32 1 rfl rfl rfl rfl rfl rfl trivial ?_
    refine d1 18 40 2 rfl rfl rfl rfl rfl rfl trivial ?_
    refine d1 19 48 3 rfl rfl rfl rfl rfl rfl (by first | trivial | omega | (simp only [List.length_map, List.length_append, List.length_cons, List.length_nil] at *; omega)) ?_
    refine d1 20 56 4 rfl rfl rfl rfl rfl rfl (by first | trivial | omega | (simp only [List.length_map, List.length_append, List.length_cons, List.length_nil] at *; omega)) ?_
    refine d1 21 64 5 rfl rfl rfl rfl rfl rfl trivial ?_
    refine d1 22 72 6 rfl rfl rfl rfl rfl rfl trivial ?_
    refine d1 23 80 7 rfl rfl rfl rfl rfl rfl (by first | trivial | omega | (simp only [List.length_map, List.length_append, List.length_cons, List.length_nil] at *; omega)) ?_
    refine d1 24 88 8 rfl rfl rfl rfl rfl rfl (by first | trivial | omega | (simp only [List.length_map, List.length_append, List.length_cons, List.length_nil] at *; omega)) ?_
    refine d1 25 96 9 rfl rfl rfl rfl rfl rfl (by first | trivial | omega | (simp only [List.length_map, List.length_append, List.length_cons, List.length_nil] at *; omega)) ?_
    refine de1 104 rfl (by kernel_rfl) ?_
    refine keep [0, 1, 5, 25] rfl ?_
    refine q1 rfl (fun hc6 => ?_) (fun hc6 => ?_)
    · skip
      exfalso; simp at hc6
    try simp only [cs, ne_eq] at hc6
    refine W_skip ?_
    refine bn ?_
    refine tn ?_
    refine r0 ?_
    refine s1 15 104 1 rfl rfl rfl rfl rfl rfl trivial ?_
    refine sA 16 112 2 rfl rfl rfl rfl rfl rfl rfl rfl rfl (by unfold inRange; omega) ?_
    refine s1 5 120 3 rfl rfl rfl rfl rfl rfl trivial ?_
    refine e1 128 rfl ?_
    refine tn ?_
    exact again ((n + 1 : Nat)) [] (show (n + 1) ≤ x.length from (by omega)) (show x.length - (n + 1) < x.length - n from (by omega)) rfl ⟨rfl, rfl, rfl, trivial⟩ trivial
  try simp only [cs, ne_eq] at hc4
  refine W_exit ?_
  refine tx ?_
  refine tx ?_
  refine bx ?_
  refine tn ?_
  refine r1 ?_
  refine s1 4 32 1 rfl rfl rfl rfl rfl rfl trivial ?_
  refine e1 40 rfl ?_
  refine keep [4] rfl ?_
  refine W_ret ?_
  exact out1 4 (SV.b true) (π := []) (hout := []) Tryd.results11 rfl rfl rfl rfl trivial ⟨rfl, rfl⟩

theorem lawRun_any (C : List Ins) (l ws : List Int) (lim : Int) (hCl : C.length ≤ 9223372036854775807) (hll : l.length ≤ 9223372036854775807) (hwl : ws.length ≤ 9223372036854775807) (hcr : CRng C) (hlr : ∀ i, inRange (l.getD i 0)) (hwr : ∀ i, inRange (ws.getD i 0)) : Spec Tryd.prog GV 4 [insV C, intsV l, intsV ws, SV.i lim] [] (fun r _ => r = SV.b true) := by
  have hlen := vran_len C l ws lim
  refine start 55 0 Tryd.func4 rfl rfl rfl rfl ?_
  refine r1 ?_
  refine s1 8 0 1 rfl rfl rfl rfl rfl rfl trivial ?_
  refine e1 8 rfl ?_
  refine keep [0, 1, 2, 3] rfl ?_
  refine r1 ?_
  refine s1 18 8 1 rfl rfl rfl rfl rfl rfl trivial ?_
  refine s1 19 16 2 rfl rfl rfl rfl rfl rfl trivial ?_
  refine s1 20 24 3 rfl rfl rfl rfl rfl rfl trivial ?_
  refine s1 21 32 4 rfl rfl rfl rfl rfl rfl trivial ?_
  refine c1 (run_any C l ws lim hCl hll hwl _ rfl) [] [] 22 40 5 rfl rfl rfl rfl rfl rfl rfl rfl Tryd.func9 rfl rfl rfl rfl trivial rfl rfl ?_
  refine s1 17 48 6 rfl rfl rfl rfl rfl rfl trivial ?_
  refine s1 23 56 7 rfl rfl rfl rfl rfl rfl trivial ?_
  refine s1 24 64 8 rfl rfl rfl rfl rfl rfl trivial ?_
  refine s1 25 72 9 rfl rfl rfl rfl rfl rfl trivial ?_
  refine s1 26 80 10 rfl rfl rfl rfl rfl rfl trivial ?_
  refine s1 9 88 11 rfl rfl rfl rfl rfl rfl trivial ?_
  refine s1 10 96 12 rfl rfl rfl rfl rfl rfl trivial ?_
  refine s1 11 104 13 rfl rfl rfl rfl rfl rfl trivial ?_
  refine s1 12 112 14 rfl rfl rfl rfl rfl rfl trivial ?_
  refine e1 120 rfl ?_
  refine keep [0, 1, 2, 3, 9, 10, 11, 12] rfl ?_
  refine r1 ?_
  refine s1 28 120 1 rfl rfl rfl rfl rfl rfl trivial ?_
  refine s1 29 128 2 rfl rfl rfl rfl rfl rfl trivial ?_
  refine s1 30 136 3 rfl rfl rfl rfl rfl rfl trivial ?_
  refine s1 31 144 4 rfl rfl rfl rfl rfl rfl trivial ?_
  refine c1 (ran_any C l ws lim hCl hll hwl hcr hlr hwr _ rfl) [] [] 32 152 5 rfl rfl rfl rfl rfl rfl rfl rfl Tryd.func10 rfl rfl rfl rfl trivial rfl rfl ?_
  refine s1 27 160 6 rfl rfl rfl rfl rfl rfl trivial ?_
  refine s1 33 168 7 rfl rfl rfl rfl rfl rfl trivial ?_
  refine s1 34 176 8 rfl rfl rfl rfl rfl rfl trivial ?_
  refine s1 35 184 9 rfl rfl rfl rfl rfl rfl trivial ?_
  refine s1 36 192 10 rfl rfl rfl rfl rfl rfl trivial ?_
  refine s1 13 200 11 rfl rfl rfl rfl rfl rfl trivial ?_
  refine s1 14 208 12 rfl rfl rfl rfl rfl rfl trivial ?_
  refine s1 15 216 13 rfl rfl rfl rfl rfl rfl trivial ?_
  refine s1 16 224 14 rfl rfl rfl rfl rfl rfl trivial ?_
  refine e1 232 rfl ?_
  refine keep [9, 10, 11, 12, 13, 14, 15, 16] rfl ?_
  refine r1 ?_
  refine s1 37 232 1 rfl rfl rfl rfl rfl rfl trivial ?_
  refine s1 38 240 2 rfl rfl rfl rfl rfl rfl trivial ?_
  refine c1 (same_self (vran C l ws lim).told (by omega)) [] [] 39 248 3 rfl rfl rfl rfl rfl rfl rfl rfl Tryd.func11 rfl rfl rfl rfl trivial rfl rfl ?_
  refine s1 40 256 4 rfl rfl rfl rfl rfl rfl trivial ?_
  refine g1 3 true 40 41 5 rfl rfl rfl rfl rfl ?_
  refine s1 41 264 5 rfl rfl rfl rfl rfl rfl trivial ?_
  refine g1 3 true 40 42 6 rfl rfl rfl rfl rfl ?_
  refine s1 42 272 6 rfl rfl rfl rfl rfl rfl trivial ?_
  refine g1 3 true 40 43 7 rfl rfl rfl rfl rfl ?_
  refine c1 (same_self (vran C l ws lim).after (by omega)) [] [] 43 280 7 rfl rfl rfl rfl rfl rfl rfl rfl Tryd.func11 rfl rfl rfl rfl trivial rfl rfl ?_
  refine s1 44 288 8 rfl rfl rfl rfl rfl rfl trivial ?_
  refine s1 45 296 9 rfl rfl rfl rfl rfl rfl trivial ?_
  refine g1 8 true 45 46 10 rfl rfl rfl rfl rfl ?_
  refine s1 46 304 10 rfl rfl rfl rfl rfl rfl trivial ?_
  refine g1 8 true 45 47 11 rfl rfl rfl rfl rfl ?_
  refine s1 47 312 11 rfl rfl rfl rfl rfl rfl trivial ?_
  refine g1 8 true 45 48 12 rfl rfl rfl rfl rfl ?_
  refine s1 48 320 12 rfl rfl rfl rfl rfl rfl (by first | trivial | omega | (simp only [List.length_map, List.length_append, List.length_cons, List.length_nil] at *; omega)) ?_
  refine val 48 (SV.b true) rfl (by simp) ?_
  refine s1 49 328 13 rfl rfl rfl rfl rfl rfl trivial ?_
  refine s1 50 336 14 rfl rfl rfl rfl rfl rfl trivial ?_
  refine g1 13 true 50 51 15 rfl rfl rfl rfl rfl ?_
  refine s1 51 344 15 rfl rfl rfl rfl rfl rfl trivial ?_
  refine g1 13 true 50 52 16 rfl rfl rfl rfl rfl ?_
  refine s1 52 352 16 rfl rfl rfl rfl rfl rfl trivial ?_
  refine g1 13 true 50 53 17 rfl rfl rfl rfl rfl ?_
  refine s1 53 360 17 rfl rfl rfl rfl rfl rfl (by first | trivial | omega | (simp only [List.length_map, List.length_append, List.length_cons, List.length_nil] at *; omega)) ?_
  refine val 53 (SV.b true) rfl (by simp) ?_
  refine s1 54 368 18 rfl rfl rfl rfl rfl rfl trivial ?_
  refine s1 8 376 19 rfl rfl rfl rfl rfl rfl trivial ?_
  refine e1 384 rfl ?_
  refine keep [8] rfl ?_
  refine W_ret ?_
  exact out1 8 (SV.b true) (π := []) (hout := []) Tryd.results4 rfl rfl rfl rfl trivial rfl

end Go.Proofs.YtdjphneoecebmaaDoor.Nice
