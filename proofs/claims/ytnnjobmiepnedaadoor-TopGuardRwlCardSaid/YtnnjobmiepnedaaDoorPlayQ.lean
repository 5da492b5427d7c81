/- Threads beside each other: the whole run, as plain functions. -/
import Derived.Test.YtnnjobmiepnedaaDoorPlayA
import Derived.Test.YtnnjobmiepnedaaDoorPlayC
namespace Go.Proofs.YtnnjobmiepnedaaDoor.Nice
open Go
set_option linter.unusedVariables false
set_option linter.unusedSimpArgs false
set_option maxRecDepth 100000
set_option maxHeartbeats 4000000
def thrO (n : Nat) (c : Option (List Ins × Thr)) : Option Blk := c.map fun p => thrYB n p.1 p.2
def toldO (c : Option (List Ins × Thr)) : Option Blk := c.map fun p => intsB p.2.told
structure TSok (q : Mach) (j : Nat) (s : TS) : Prop where
  nx : 0 ≤ s.nx ∧ s.nx ≤ (q.ts.getD j []).length
  cur : ∀ C t, s.cur = some (C, t) → mayB C = true ∧ (t.ov = false → 0 ≤ t.pc ∧ t.pc < C.length) ∧ t.told.length ≤ 200 ∧ 1 ≤ s.nx
theorem prun_at {q : Mach} {sc : List Int} {k : Nat} (h : k < sc.length) (s : PS) : prun q (sc.drop k) k s = prun q (sc.drop (k + 1)) (k + 1) (pstep q (sc.getD k 0).toNat k s) := by
  rw [List.drop_eq_getElem_cons h, show sc.getD k 0 = sc[k] from by simp [List.getD, h]]; rfl
theorem pstep_eq {q : Mach} {j : Nat} {step : Int} {s : PS} {a : TS} {b : List Int} {c : List Ev} (h : pbody q j step (s.ts.getD j ⟨0, none⟩) s.ws s.out = (a, b, c)) : pstep q j step s = ⟨b, c, s.ts.set j a⟩ := by unfold pstep; rw [h]
theorem pb_idle {q : Mach} {j : Nat} {step nx : Int} {ws : List Int} {out : List Ev} (h : ¬ nx < (q.ts.getD j []).length) : pbody q j step ⟨nx, none⟩ ws out = (⟨nx, none⟩, ws, out) := by unfold pbody; simp only; rw [if_neg h]
theorem pgo_alive {j step nx : Int} {C : List Ins} {t : Thr} {ws : List Int} {out : List Ev} {p : Thr × List Int} (hp : vstep C ws t = p) (h : p.1.ov = false) : pgo j step nx C t ws out = (⟨nx, some (C, p.1)⟩, p.2, out) := by unfold pgo; rw [hp, if_neg (by rw [h]; decide)]
theorem pgo_over {j step nx : Int} {C : List Ins} {t : Thr} {ws : List Int} {out : List Ev} {p : Thr × List Int} (hp : vstep C ws t = p) (h : p.1.ov = true) : pgo j step nx C t ws out = (⟨nx, none⟩, p.2, out ++ [⟨step, j, nx - 1, true, p.1.e, p.1.told⟩]) := by unfold pgo; rw [hp, if_pos h]
theorem pb_begin {q : Mach} {j : Nat} {step nx : Int} {ws : List Int} {out : List Ev} (h : nx < (q.ts.getD j []).length) : pbody q j step ⟨nx, none⟩ ws out = pgo j step (nx + 1) (codeOf q j nx) (vnew (codeOf q j nx) (callAt q j nx).args) ws (out ++ [⟨step, j, nx, false, 0, []⟩]) := by unfold pbody; simp only; rw [if_pos h]
theorem pb_go {q : Mach} {j : Nat} {step nx : Int} {C : List Ins} {t : Thr} {ws : List Int} {out : List Ev} : pbody q j step ⟨nx, some (C, t)⟩ ws out = pgo j step nx C t ws out := rfl
theorem pinit_n {q : Mach} {n : Nat} (h : q.ts.length = n) : pinit q = ⟨q.ws, [], List.replicate n ⟨0, none⟩⟩ := by unfold pinit; rw [List.map_const', h]
theorem ok_init (q : Mach) (j : Nat) : TSok q j ⟨0, none⟩ := ⟨⟨by simp, by simp⟩, fun C t h => by cases h⟩
theorem ok_alive {q : Mach} {j : Nat} {nx : Int} {C : List Ins} {t : Thr} {ws : List Int} (hl : Live ws.length C t ws) (h0 : 1 ≤ nx ∧ nx ≤ (q.ts.getD j []).length) {p : Thr × List Int} (hp : vstep C ws t = p) : TSok q j ⟨nx, some (C, p.1)⟩ := by
  have := vstep_ok hl.c hl.ok
  rw [hp] at this
  exact ⟨⟨by show 0 ≤ nx; omega, h0.2⟩, fun C' t' h => by cases h; exact ⟨hl.c, this.pc, this.told, h0.1⟩⟩
theorem ok_over {q : Mach} {j : Nat} {nx : Int} (h0 : 0 ≤ nx ∧ nx ≤ (q.ts.getD j []).length) : TSok q j ⟨nx, none⟩ := ⟨h0, fun C t h => by cases h⟩
theorem ws_len {C : List Ins} {t : Thr} {ws : List Int} (hl : Live ws.length C t ws) {p : Thr × List Int} (hp : vstep C ws t = p) : p.2.length = ws.length := by
  have := (vstep_ok hl.c hl.ok).ws
  rw [hp] at this; exact this
theorem live_of {q : Mach} {j : Nat} {nx : Int} {C : List Ins} {t : Thr} {ws : List Int} (h : TSok q j ⟨nx, some (C, t)⟩) : Live ws.length C t ws ∧ 1 ≤ nx := by
  obtain ⟨h1, h2, h3, h4⟩ := h.cur C t rfl
  exact ⟨⟨h1, ⟨h2, h3, rfl⟩⟩, h4⟩
theorem thr_short {q : Mach} (hq : machB q = true) (j : Nat) : (q.ts.getD j []).length ≤ 20 := by
  by_cases hj : j < q.ts.length
  · unfold machB at hq
    rw [Bool.and_eq_true, Bool.and_eq_true, List.all_eq_true, List.all_eq_true] at hq
    have h2 := hq.2.2 _ (List.getElem_mem hj)
    unfold thrB at h2
    rw [Bool.and_eq_true, decide_eq_true_eq] at h2
    rw [getG hj]; exact h2.1
  · rw [List.getD_eq_getElem?_getD, List.getElem?_eq_none (by omega)]; simp
theorem mach_ws {q : Mach} (hq : machB q = true) : q.ws.length ≤ 200 ∧ q.ts.length ≤ 4 := by
  unfold machB sizeB at hq
  simp only [Bool.and_eq_true, decide_eq_true_eq] at hq
  omega
theorem pl_form {q : Mach} {sc : List Int} (h : machB q = false) : played q sc = ⟨[], [], 4⟩ := by unfold played; rw [if_pos h]
theorem pl_size {q : Mach} {sc : List Int} (h : machB q = true) (h2 : 6000 < sc.length) : played q sc = ⟨[], [], 1⟩ := by unfold played; rw [if_neg (by rw [h]; decide), if_pos h2]
theorem pl_range {q : Mach} {sc : List Int} (h : machB q = true) (h2 : ¬ 6000 < sc.length) (h3 : sc.any (bad q) = true) : played q sc = ⟨[], [], 2⟩ := by unfold played; rw [if_neg (by rw [h]; decide), if_neg h2, if_pos h3]
theorem pl_run {q : Mach} {sc : List Int} (h : machB q = true) (h2 : ¬ 6000 < sc.length) (h3 : sc.any (bad q) = false) {s : PS} (hs : prun q sc 0 (pinit q) = s) : played q sc = ⟨s.out, s.ws, 0⟩ := by unfold played; rw [if_neg (by rw [h]; decide), if_neg h2, if_neg (by rw [h3]; decide), hs]
theorem sched_in {q : Mach} {sc : List Int} (h : sc.any (bad q) = false) {k : Nat} (hk : k < sc.length) : 0 ≤ sc.getD k 0 ∧ sc.getD k 0 < q.ts.length := by
  rw [List.any_eq_false] at h
  have := h _ (List.getElem_mem hk)
  rw [show sc.getD k 0 = sc[k] from by simp [List.getD, hk]]
  unfold bad at this
  simp only [Bool.or_eq_true, decide_eq_true_eq, not_or] at this
  omega
def idxI (l : List Int) (p : Int → Bool) : Int := match l.findIdx? p with | some i => i | none => -1
theorem idxI_found {l : List Int} {p : Int → Bool} {k : Nat} (h : k < l.length) (hp : p (l.getD k 0) = true) (hn : ∀ j, j < k → p (l.getD j 0) = false) : idxI l p = k := by
  unfold idxI
  have : l.findIdx? p = some k := by
    rw [List.findIdx?_eq_some_iff_getElem]
    refine ⟨h, by rw [← getG h]; exact hp, fun j hj => by have := hn j hj; rw [getG (by omega)] at this; simp [this]⟩
  rw [this]
theorem idxI_none {l : List Int} {p : Int → Bool} (hn : ∀ j, j < l.length → p (l.getD j 0) = false) : idxI l p = -1 := by
  unfold idxI
  have : l.findIdx? p = none := by
    rw [List.findIdx?_eq_none_iff]
    intro x hx
    obtain ⟨j, hj, rfl⟩ := List.mem_iff_getElem.1 hx
    rw [← getG hj]; exact hn j hj
  rw [this]
theorem idxI_any {l : List Int} {p : Int → Bool} : decide (idxI l p ≥ 0) = l.any p := by
  unfold idxI
  cases h : l.findIdx? p with
  | none =>
    rw [List.findIdx?_eq_none_iff] at h
    have : l.any p = false := by rw [List.any_eq_false]; intro x hx; simp [h x hx]
    rw [this]; rfl
  | some i =>
    rw [List.findIdx?_eq_some_iff_getElem] at h
    obtain ⟨hi, hp, _⟩ := h
    have : l.any p = true := by rw [List.any_eq_true]; exact ⟨_, List.getElem_mem hi, hp⟩
    rw [this]; simp

theorem badp_any (q : Mach) (v : Int) : Spec Tryd.prog GV 42 [SV.i v, .ptr 0 0 0] [machBlk q] (fun r ho => r = SV.b (bad q v) ∧ ho = [some (machBlk q)]) := by
  refine start 13 1 Tryd.func42 rfl rfl rfl rfl ?_
  refine r1 ?_
  refine s1 3 1 1 rfl rfl rfl rfl rfl rfl trivial ?_
  refine e1 9 rfl ?_
  refine keep [0, 1] rfl ?_
  refine r1 ?_
  refine s1 4 9 1 rfl rfl rfl rfl rfl rfl trivial ?_
  refine s1 5 17 2 rfl rfl rfl rfl rfl rfl (by first | trivial | omega) ?_
  refine s1 6 25 3 rfl rfl rfl rfl rfl rfl trivial ?_
  refine ask 6 rfl (fun hg1_6 => ?_) (fun hg1_6 => ?_)
  · skip
    try simp only [cs, ne_eq] at hg1_6
    refine g0 2 false 6 7 4 rfl rfl rfl rfl rfl rfl ?_
    refine g0 2 false 6 8 5 rfl rfl rfl rfl rfl rfl ?_
    refine g0 2 false 6 9 6 rfl rfl rfl rfl rfl rfl ?_
    refine g0 2 false 6 10 7 rfl rfl rfl rfl rfl rfl ?_
    refine g0 2 false 6 11 8 rfl rfl rfl rfl rfl rfl ?_
    refine s1 12 73 9 rfl rfl rfl rfl rfl rfl trivial ?_
    refine s1 3 81 10 rfl rfl rfl rfl rfl rfl trivial ?_
    refine e1 89 rfl ?_
    refine keep [3] rfl ?_
    refine W_ret ?_
    exact out1 3 (SV.b (bad q v)) (π := [0]) (hout := [some (machBlk q)]) Tryd.results42 rfl (by show SV.b _ = SV.b _; refine congrArg SV.b (Bool.eq_iff_iff.2 ?_); first | (simp [bad, *]; done) | (simp [bad, *]; omega) | (simp [bad] at *; omega)) rfl rfl ⟨rfl, trivial⟩ ⟨rfl, rfl⟩
  · skip
    try simp only [cs, ne_eq] at hg1_6
    refine g1 2 false 6 7 4 rfl rfl rfl rfl rfl ?_
    refine s1 7 33 4 rfl rfl rfl rfl rfl rfl trivial ?_
    refine g1 2 false 6 8 5 rfl rfl rfl rfl rfl ?_
    refine s1 8 41 5 rfl rfl rfl rfl rfl rfl trivial ?_
    refine g1 2 false 6 9 6 rfl rfl rfl rfl rfl ?_
    refine s1 9 49 6 rfl rfl rfl rfl rfl rfl (by first | trivial | omega) ?_
    refine g1 2 false 6 10 7 rfl rfl rfl rfl rfl ?_
    refine s1 10 57 7 rfl rfl rfl rfl rfl rfl (by first | trivial | omega) ?_
    refine g1 2 false 6 11 8 rfl rfl rfl rfl rfl ?_
    refine s1 11 65 8 rfl rfl rfl rfl rfl rfl (by first | trivial | omega) ?_
    refine s1 12 73 9 rfl rfl rfl rfl rfl rfl trivial ?_
    refine s1 3 81 10 rfl rfl rfl rfl rfl rfl trivial ?_
    refine e1 89 rfl ?_
    refine keep [3] rfl ?_
    refine W_ret ?_
    exact out1 3 (SV.b (bad q v)) (π := [0]) (hout := [some (machBlk q)]) Tryd.results42 rfl (by show SV.b _ = SV.b _; refine congrArg SV.b (Bool.eq_iff_iff.2 ?_); first | (simp [bad, *]; done) | (simp [bad, *]; omega) | (simp [bad] at *; omega)) rfl rfl ⟨rfl, trivial⟩ ⟨rfl, rfl⟩

theorem indexI_any (q : Mach) (l : List Int) (hl : l.length ≤ 9223372036854775807) : Spec Tryd.prog GV 62 [intsV l, .fn 42 [.ptr 0 0 0]] [machBlk q] (fun r ho => r = SV.i (idxI l (bad q)) ∧ ho = [some (machBlk q)]) := by
  refine start 19 1 Tryd.func62 rfl rfl rfl rfl ?_
  refine r1 ?_
  refine s1 4 1 1 rfl rfl rfl rfl rfl rfl trivial ?_
  refine e1 9 rfl ?_
  refine keep [0, 1] rfl ?_
  refine W_seq ?_
  refine r1 ?_
  refine s1 6 9 1 rfl rfl rfl rfl rfl rfl trivial ?_
  refine s1 7 17 2 rfl rfl rfl rfl rfl rfl (by first | trivial | omega) ?_
  refine s1 8 25 3 rfl rfl rfl rfl rfl rfl trivial ?_
  refine e1 33 rfl ?_
  refine keep [0, 1, 7, 8] rfl ?_
  refine W_block ?_
  refine loop (α := Nat) 1 (fun n => [(0, intsV l), (1, .fn 42 [.ptr 0 0 0]), (7, SV.i l.length), (8, SV.i n)]) (fun n => [some (machBlk q)]) (fun n => n ≤ l.length ∧ ∀ j, j < n → bad q (l.getD j 0) = false) (fun n => l.length - n) (0) [0] (fun _ => rfl) ⟨Nat.zero_le _, fun j hj => by omega⟩ rfl ⟨rfl, rfl, rfl, rfl, trivial⟩ ⟨rfl, trivial⟩ (fun n hx => ?_)
  obtain ⟨hn, hno⟩ := hx
  refine r1 ?_
  refine s1 9 1 1 rfl rfl rfl rfl rfl rfl (by first | trivial | omega) ?_
  refine e1 9 rfl ?_
  refine keep [0, 1, 7, 8, 9] rfl ?_
  refine W_seq ?_
  refine q1 rfl (fun hc2 => ?_) (fun hc2 => ?_)
  · skip
    try simp only [cs, ne_eq] at hc2
    refine W_skip ?_
    refine tn ?_
    refine W_seq ?_
    refine W_block ?_
    refine r1 ?_
    refine s1 10 9 1 rfl rfl rfl rfl rfl rfl trivial ?_
    refine s1 5 17 2 rfl rfl rfl rfl rfl rfl trivial ?_
    refine e1 25 rfl ?_
    refine keep [0, 1, 5, 7, 8] rfl ?_
    refine r1 ?_
    refine s1 11 25 1 rfl rfl rfl rfl rfl rfl trivial ?_
    refine s1 12 33 2 rfl rfl rfl rfl rfl rfl trivial ?_
    refine s1 13 41 3 rfl rfl rfl rfl rfl rfl trivial ?_
    refine s1 14 49 4 rfl rfl rfl rfl rfl rfl (by first | trivial | omega) ?_
    refine s1 15 57 5 rfl rfl rfl rfl rfl rfl (by first | trivial | omega) ?_
    refine c1 (badp_any q (l.getD n 0)) [0] [0] 16 65 6 rfl rfl rfl rfl rfl rfl rfl rfl Tryd.func42 rfl rfl rfl rfl ⟨rfl, trivial⟩ rfl rfl ?_
    refine e1 73 rfl ?_
    refine keep [0, 1, 5, 7, 8, 16] rfl ?_
    refine q1 rfl (fun hc4 => ?_) (fun hc4 => ?_)
    · skip
      try simp only [cs, ne_eq] at hc4
      refine r1 ?_
      refine s1 17 73 1 rfl rfl rfl rfl rfl rfl trivial ?_
      refine s1 4 81 2 rfl rfl rfl rfl rfl rfl trivial ?_
      refine e1 89 rfl ?_
      refine keep [4] rfl ?_
      refine W_ret ?_
      refine br ?_
      refine tr ?_
      refine tr ?_
      refine br ?_
      refine tr ?_
      exact out1 4 (SV.i (idxI l (bad q))) (π := [0]) (hout := [some (machBlk q)]) Tryd.results62 rfl (by rw [idxI_found (by omega) hc4 hno]; rfl) rfl rfl ⟨rfl, trivial⟩ ⟨rfl, rfl⟩
    · skip
      try simp only [cs, ne_eq] at hc4
      refine W_skip ?_
      refine bn ?_
      refine tn ?_
      refine r0 ?_
      refine sA 18 73 1 rfl rfl rfl rfl rfl rfl rfl rfl rfl (by unfold inRange; omega) ?_
      refine s1 8 81 2 rfl rfl rfl rfl rfl rfl trivial ?_
      refine e1 89 rfl ?_
      refine tn ?_
      exact again (n + 1) [0] ⟨by omega, fun j hj => by by_cases e : j = n; (subst e; exact hc4); exact hno j (by omega)⟩ (by omega) rfl ⟨rfl, rfl, rfl, rfl, trivial⟩ ⟨rfl, trivial⟩
  · skip
    try simp only [cs, ne_eq] at hc2
    refine W_exit ?_
    refine tx ?_
    refine tx ?_
    refine bx ?_
    refine tn ?_
    refine r1 ?_
    refine s1 4 9 1 rfl rfl rfl rfl rfl rfl trivial ?_
    refine e1 17 rfl ?_
    refine keep [4] rfl ?_
    refine W_ret ?_
    exact out1 4 (SV.i (idxI l (bad q))) (π := [0]) (hout := [some (machBlk q)]) Tryd.results62 rfl (by rw [idxI_none (fun j hj => hno j (by omega))]; rfl) rfl rfl ⟨rfl, trivial⟩ ⟨rfl, rfl⟩

theorem containsI_any (q : Mach) (l : List Int) (hl : l.length ≤ 9223372036854775807) : Spec Tryd.prog GV 41 [intsV l, .fn 42 [.ptr 0 0 0]] [machBlk q] (fun r ho => r = SV.b (l.any (bad q)) ∧ ho = [some (machBlk q)]) := by
  refine start 9 1 Tryd.func41 rfl rfl rfl rfl ?_
  refine r1 ?_
  refine s1 4 1 1 rfl rfl rfl rfl rfl rfl trivial ?_
  refine e1 9 rfl ?_
  refine keep [0, 1] rfl ?_
  refine r1 ?_
  refine s1 5 9 1 rfl rfl rfl rfl rfl rfl trivial ?_
  refine s1 6 17 2 rfl rfl rfl rfl rfl rfl trivial ?_
  refine c1 (indexI_any q l hl) [0] [0] 7 25 3 rfl rfl rfl rfl rfl rfl rfl rfl Tryd.func62 rfl rfl rfl rfl ⟨rfl, trivial⟩ rfl rfl ?_
  refine s1 8 33 4 rfl rfl rfl rfl rfl rfl (by first | trivial | omega) ?_
  refine s1 4 41 5 rfl rfl rfl rfl rfl rfl trivial ?_
  refine e1 49 rfl ?_
  refine keep [4] rfl ?_
  refine W_ret ?_
  exact out1 4 (SV.b (l.any (bad q))) (π := [0]) (hout := [some (machBlk q)]) Tryd.results41 rfl (congrArg SV.b idxI_any) rfl rfl ⟨rfl, trivial⟩ ⟨rfl, rfl⟩

end Go.Proofs.YtnnjobmiepnedaaDoor.Nice
