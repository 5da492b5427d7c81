/- The document's run: plain functions. -/
import Derived.Test.YtdjphneoecebmaaDoorPlayQ
import Derived.Test.YtdjphneoecebmaaDoorVmRan
namespace Go.Proofs.YtdjphneoecebmaaDoor.Nice
open Go
set_option linter.unusedVariables false
set_option linter.unusedSimpArgs false
set_option maxRecDepth 100000
set_option maxHeartbeats 4000000
def wkrM (m q : Nat) (C : List Ins) (w : Wkr) : Blk := .cells 58 6 [insV C, .map m, SV.i w.pc, .sl q 0 w.told.length, SV.i w.e, SV.b w.ov]
def wkO (m q : Nat) (c : Option (List Ins × Thr)) (w : Wkr) : Option Blk := c.map fun p => wkrM m q p.1 w
def wmO (c : Option (List Ins × Thr)) (w : Wkr) : Option Blk := c.map fun _ => .map (mapL w.L)
def wtO (c : Option (List Ins × Thr)) (w : Wkr) : Option Blk := c.map fun _ => intsB w.told
structure Mrng (q : Mach) : Prop where
  ws : ∀ i, inRange (q.ws.getD i 0)
  cs : ∀ n, CRng (q.cs.getD n [])
  args : ∀ j n i, inRange ((callAt q j n).args.getD i 0)
structure RSok (ws : List Int) (s : TS) (w : Wkr) : Prop where
  r : ∀ C t, s.cur = some (C, t) → RelD t w ∧ Rng (t, ws) ∧ CRng C
theorem rs_none {ws : List Int} {nx : Int} {w : Wkr} : RSok ws ⟨nx, none⟩ w := ⟨fun C t h => by cases h⟩
theorem rs_ws {ws ws' : List Int} {s : TS} {w : Wkr} (h : RSok ws s w) (h2 : ∀ i, inRange (ws'.getD i 0)) : RSok ws' s w := ⟨fun C t e => by obtain ⟨a, b, c⟩ := h.r C t e; exact ⟨a, ⟨b.1, h2⟩, c⟩⟩
theorem rs_some {ws : List Int} {nx : Int} {C : List Ins} {t : Thr} {w : Wkr} (h : RelD t w) (h2 : Rng (t, ws)) (h3 : CRng C) : RSok ws ⟨nx, some (C, t)⟩ w := ⟨fun C' t' e => by cases e; exact ⟨h, h2, h3⟩⟩
theorem take_getD {l : List TS} {n j : Nat} (h : j < n) (z : TS) : (l.take n).getD j z = l.getD j z := by
  rw [List.getD_eq_getElem?_getD, List.getD_eq_getElem?_getD, List.getElem?_take, if_pos h]
theorem take_set {l : List TS} {n j : Nat} (a : TS) : (l.take n).set j a = (l.set j a).take n := by
  apply List.ext_getElem?
  intro i
  simp only [List.getElem?_set, List.getElem?_take, List.length_take]
  by_cases h : j = i
  · subst h
    by_cases h2 : j < n <;> by_cases h3 : j < l.length <;> simp [h2, h3, Nat.lt_min] <;> omega
  · simp [h]
theorem pstep_tk {q : Mach} {j n : Nat} {step : Int} {ws : List Int} {out : List Ev} {l : List TS} (hj : j < n) {a : TS} {b : List Int} {c : List Ev} (h : pbody q j step (l.getD j ⟨0, none⟩) ws out = (a, b, c)) : pstep q j step ⟨ws, out, l.take n⟩ = ⟨b, c, (l.set j a).take n⟩ := by
  rw [pstep_eq (a := a) (b := b) (c := c) (by rw [take_getD hj]; exact h), take_set]
theorem pinit_tk {q : Mach} (h : q.ts.length ≤ 4) : pinit q = ⟨q.ws, [], ([⟨0, none⟩, ⟨0, none⟩, ⟨0, none⟩, ⟨0, none⟩] : List TS).take q.ts.length⟩ := by
  unfold pinit
  have : (q.ts.map fun _ => (⟨0, none⟩ : TS)) = ([⟨0, none⟩, ⟨0, none⟩, ⟨0, none⟩, ⟨0, none⟩] : List TS).take q.ts.length := by
    rw [List.map_const']
    rcases (show q.ts.length = 0 ∨ q.ts.length = 1 ∨ q.ts.length = 2 ∨ q.ts.length = 3 ∨ q.ts.length = 4 from by omega) with e | e | e | e | e <;> rw [e] <;> rfl
  rw [this]
theorem bad_no {q : Mach} {v : Int} (h : ¬ v < 0) (h2 : ¬ v ≥ q.ts.length) : bad q v = false := by unfold bad; simp only [Bool.or_eq_false_iff, decide_eq_false_iff_not]; omega
theorem bad_lo {q : Mach} {v : Int} (h : v < 0) : bad q v = true := by unfold bad; simp only [Bool.or_eq_true, decide_eq_true_eq]; omega
theorem bad_hi {q : Mach} {v : Int} (h : v ≥ q.ts.length) : bad q v = true := by unfold bad; simp only [Bool.or_eq_true, decide_eq_true_eq]; omega
theorem any_at {q : Mach} {sc : List Int} {n : Nat} (h : n < sc.length) (hp : bad q (sc.getD n 0) = true) : sc.any (bad q) = true := by
  rw [List.any_eq_true]; exact ⟨sc[n], List.getElem_mem h, by rw [← show sc.getD n 0 = sc[n] from by simp [List.getD, h]]; exact hp⟩
theorem any_no {q : Mach} {sc : List Int} (hn : ∀ j, j < sc.length → bad q (sc.getD j 0) = false) : sc.any (bad q) = false := by
  rw [List.any_eq_false]; intro x hx; obtain ⟨j, hj, rfl⟩ := List.mem_iff_getElem.1 hx
  have := hn j hj; rw [show sc.getD j 0 = sc[j] from by simp [List.getD, hj]] at this; simp [this]
theorem goW_alive {j step nx : Int} {C : List Ins} {t : Thr} {w : Wkr} {ws : List Int} {out : List Ev} (h : After C.length (vstep C ws t) (rone C ws w)) (ho : (rone C ws w).1.ov = false) : pgo j step nx C t ws out = (⟨nx, some (C, (vstep C ws t).1)⟩, (rone C ws w).2, out) := by rw [pgo_alive rfl (h.1.ov.symm.trans ho), h.2]
theorem goW_over {j step nx : Int} {C : List Ins} {t : Thr} {w : Wkr} {ws : List Int} {out : List Ev} (h : After C.length (vstep C ws t) (rone C ws w)) (ho : (rone C ws w).1.ov = true) : pgo j step nx C t ws out = (⟨nx, none⟩, (rone C ws w).2, out ++ [⟨step, j, nx - 1, true, (rone C ws w).1.e, (rone C ws w).1.told⟩]) := by rw [pgo_over rfl (h.1.ov.symm.trans ho), h.2, h.1.e, h.1.told]

set_option maxHeartbeats 40000000
theorem refplay (q : Mach) (hq : q.ok) (hmr : Mrng q) (sc : List Int) (hsc : sc.length ≤ 9223372036854775807) (R0 : PRes) (hp0 : played q sc = R0) : Spec Tryd.prog GV 15 [machS q, intsV sc] [] (fun r ho => r = SV.tup [evV R0.out, intsV R0.ws, SV.i R0.e] ∧ ho = []) := by
  refine start 135 0 Tryd.func15 rfl rfl rfl rfl ?_
  refine r1 ?_
  refine s1 2 0 1 rfl rfl rfl rfl rfl rfl trivial ?_
  refine s1 4 8 2 rfl rfl rfl rfl rfl rfl trivial ?_
  refine s1 5 16 3 rfl rfl rfl rfl rfl rfl trivial ?_
  refine s1 6 24 4 rfl rfl rfl rfl rfl rfl trivial ?_
  refine e1 32 rfl ?_
  refine keep [1, 2] rfl ?_
  refine W_seq ?_
  refine r1 ?_
  refine s1 16 32 1 rfl rfl rfl rfl rfl rfl (by first | trivial | omega) ?_
  refine c1 (refMach_any q hq) [] [] 17 40 2 rfl rfl rfl rfl rfl rfl rfl rfl Tryd.func13 rfl rfl rfl rfl trivial rfl rfl ?_
  refine s1 18 48 3 rfl rfl rfl rfl rfl rfl trivial ?_
  refine e1 56 rfl ?_
  refine keep [1, 2, 18] rfl ?_
  refine q1 rfl (fun hc1 => ?_) (fun hc1 => ?_)
  · skip
    try simp only [cs, ne_eq] at hc1
    refine r1 ?_
    refine s1 4 56 1 rfl rfl rfl rfl rfl rfl trivial ?_
    refine s1 5 64 2 rfl rfl rfl rfl rfl rfl trivial ?_
    refine s1 6 72 3 rfl rfl rfl rfl rfl rfl trivial ?_
    refine e1 80 rfl ?_
    refine keep [4, 5, 6] rfl ?_
    refine nilv 4 6 (evF []) rfl ?_
    refine nilv 5 1 (intsF []) rfl ?_
    refine W_ret ?_
    refine tr ?_
    have hr := hp0.symm.trans (pl_form hc1)
    exact out3 4 5 6 (evV R0.out) (intsV R0.ws) (SV.i R0.e) (π := []) (hout := []) Tryd.results15 rfl rfl rfl (by rw [hr]; rfl) (by rw [hr]; rfl) (by rw [hr]; rfl) rfl rfl trivial ⟨rfl, rfl⟩
  try simp only [cs, ne_eq] at hc1
  refine W_skip ?_
  refine tn ?_
  refine W_seq ?_
  refine r1 ?_
  refine s1 19 56 1 rfl rfl rfl rfl rfl rfl trivial ?_
  refine s1 20 64 2 rfl rfl rfl rfl rfl rfl (by first | trivial | omega) ?_
  refine s1 21 72 3 rfl rfl rfl rfl rfl rfl (by first | trivial | omega) ?_
  refine e1 80 rfl ?_
  refine keep [1, 2, 21] rfl ?_
  refine q1 rfl (fun hc3 => ?_) (fun hc3 => ?_)
  · skip
    try simp only [cs, ne_eq] at hc3
    refine r1 ?_
    refine s1 4 80 1 rfl rfl rfl rfl rfl rfl trivial ?_
    refine s1 5 88 2 rfl rfl rfl rfl rfl rfl trivial ?_
    refine s1 6 96 3 rfl rfl rfl rfl rfl rfl trivial ?_
    refine e1 104 rfl ?_
    refine keep [4, 5, 6] rfl ?_
    refine nilv 4 6 (evF []) rfl ?_
    refine nilv 5 1 (intsF []) rfl ?_
    refine W_ret ?_
    refine tr ?_
    have hr := hp0.symm.trans (pl_size hc1 (by omega))
    exact out3 4 5 6 (evV R0.out) (intsV R0.ws) (SV.i R0.e) (π := []) (hout := []) Tryd.results15 rfl rfl rfl (by rw [hr]; rfl) (by rw [hr]; rfl) (by rw [hr]; rfl) rfl rfl trivial ⟨rfl, rfl⟩
  try simp only [cs, ne_eq] at hc3
  refine W_skip ?_
  refine tn ?_
  refine W_seq ?_
  refine r1 ?_
  refine s1 22 80 1 rfl rfl rfl rfl rfl rfl trivial ?_
  refine s1 23 88 2 rfl rfl rfl rfl rfl rfl (by first | trivial | omega) ?_
  refine s1 24 96 3 rfl rfl rfl rfl rfl rfl trivial ?_
  refine e1 104 rfl ?_
  refine keep [1, 2, 22, 23, 24] rfl ?_
  refine W_block ?_
  refine loop (α := Nat) 1 (fun n => [(1, intsV sc), (2, .ptr 0 0 0), (22, intsV sc), (23, SV.i sc.length), (24, SV.i (n))]) (fun n => [some (machBlk q)]) (fun n => (n) ≤ sc.length ∧ ∀ j, j < (n) → bad q (sc.getD j 0) = false) (fun n => sc.length - (n)) (((0) : Nat)) [0] (fun _ => rfl) (show (0) ≤ sc.length ∧ ∀ j, j < (0) → bad q (sc.getD j 0) = false from ⟨Nat.zero_le _, fun j hj => by omega⟩) rfl ⟨rfl, rfl, rfl, rfl, rfl, trivial⟩ ⟨rfl, trivial⟩ (fun n hx => ?_)
  show W _ _ _ ⟨tOf [(1, intsV sc), (2, .ptr 0 0 0), (22, intsV sc), (23, SV.i sc.length), (24, SV.i n)], hOf [some (machBlk q)], 1⟩
  have hx : n ≤ sc.length ∧ ∀ j, j < n → bad q (sc.getD j 0) = false := hx
  obtain ⟨hn, hno⟩ := hx
  refine r1 ?_
  refine s1 25 1 1 rfl rfl rfl rfl rfl rfl (by first | trivial | omega) ?_
  refine e1 9 rfl ?_
  refine keep [1, 2, 22, 23, 24, 25] rfl ?_
  refine W_seq ?_
  refine q1 rfl (fun hc6 => ?_) (fun hc6 => ?_)
  · skip
    try simp only [cs, ne_eq] at hc6
    refine W_skip ?_
    refine tn ?_
    refine W_seq ?_
    refine W_block ?_
    refine r1 ?_
    refine s1 26 9 1 rfl rfl rfl rfl rfl rfl (by first | trivial | omega) ?_
    refine s1 27 17 2 rfl rfl rfl rfl rfl rfl (by omega) ?_
    refine val 27 (SV.i (sc.getD n 0)) rfl (by simp only [Int.toNat_natCast]) ?_
    refine s1 8 25 3 rfl rfl rfl rfl rfl rfl trivial ?_
    refine e1 33 rfl ?_
    refine keep [1, 2, 8, 22, 23, 24] rfl ?_
    refine r1 ?_
    refine s1 28 33 1 rfl rfl rfl rfl rfl rfl trivial ?_
    refine s1 29 41 2 rfl rfl rfl rfl rfl rfl (by first | trivial | omega) ?_
    refine s1 30 49 3 rfl rfl rfl rfl rfl rfl trivial ?_
    refine ask 30 rfl (fun hg8_30 => ?_) (fun hg8_30 => ?_)
    · skip
      try simp only [cs, ne_eq] at hg8_30
      refine g0 2 false 30 31 4 rfl rfl rfl rfl rfl rfl ?_
      refine g0 2 false 30 32 5 rfl rfl rfl rfl rfl rfl ?_
      refine g0 2 false 30 33 6 rfl rfl rfl rfl rfl rfl ?_
      refine g0 2 false 30 34 7 rfl rfl rfl rfl rfl rfl ?_
      refine g0 2 false 30 35 8 rfl rfl rfl rfl rfl rfl ?_
      refine s1 36 97 9 rfl rfl rfl rfl rfl rfl trivial ?_
      refine e1 105 rfl ?_
      refine keep [1, 2, 22, 23, 24, 36] rfl ?_
      refine q1 rfl (fun hc8 => ?_) (fun hc8 => ?_)
      · skip
        try simp only [cs, ne_eq] at hc8
        refine r1 ?_
        refine s1 4 105 1 rfl rfl rfl rfl rfl rfl trivial ?_
        refine s1 5 113 2 rfl rfl rfl rfl rfl rfl trivial ?_
        refine s1 6 121 3 rfl rfl rfl rfl rfl rfl trivial ?_
        refine e1 129 rfl ?_
        refine keep [4, 5, 6] rfl ?_
        refine nilv 4 6 (evF []) rfl ?_
        refine nilv 5 1 (intsF []) rfl ?_
        refine W_ret ?_
        refine br ?_
        refine tr ?_
        refine tr ?_
        refine br ?_
        refine tr ?_
        have hr := hp0.symm.trans (pl_range hc1 (by omega) (any_at (n := n) (by omega) (by first | exact bad_lo (by omega) | exact bad_hi (by omega))))
        exact out3 4 5 6 (evV R0.out) (intsV R0.ws) (SV.i R0.e) (π := []) (hout := []) Tryd.results15 rfl rfl rfl (by rw [hr]; rfl) (by rw [hr]; rfl) (by rw [hr]; rfl) rfl rfl trivial ⟨rfl, rfl⟩
      exact absurd hc8 (by decide)
    try simp only [cs, ne_eq] at hg8_30
    refine g1 2 false 30 31 4 rfl rfl rfl rfl rfl ?_
    refine s1 31 57 4 rfl rfl rfl rfl rfl rfl trivial ?_
    refine g1 2 false 30 32 5 rfl rfl rfl rfl rfl ?_
    refine s1 32 65 5 rfl rfl rfl rfl rfl rfl trivial ?_
    refine g1 2 false 30 33 6 rfl rfl rfl rfl rfl ?_
    refine s1 33 73 6 rfl rfl rfl rfl rfl rfl (by first | trivial | omega) ?_
    refine g1 2 false 30 34 7 rfl rfl rfl rfl rfl ?_
    refine s1 34 81 7 rfl rfl rfl rfl rfl rfl (by first | trivial | omega) ?_
    refine g1 2 false 30 35 8 rfl rfl rfl rfl rfl ?_
    refine s1 35 89 8 rfl rfl rfl rfl rfl rfl (by first | trivial | omega) ?_
    refine s1 36 97 9 rfl rfl rfl rfl rfl rfl trivial ?_
    refine e1 105 rfl ?_
    refine keep [1, 2, 22, 23, 24, 36] rfl ?_
    refine q1 rfl (fun hc8 => ?_) (fun hc8 => ?_)
    · skip
      try simp only [cs, ne_eq] at hc8
      refine r1 ?_
      refine s1 4 105 1 rfl rfl rfl rfl rfl rfl trivial ?_
      refine s1 5 113 2 rfl rfl rfl rfl rfl rfl trivial ?_
      refine s1 6 121 3 rfl rfl rfl rfl rfl rfl trivial ?_
      refine e1 129 rfl ?_
      refine keep [4, 5, 6] rfl ?_
      refine nilv 4 6 (evF []) rfl ?_
      refine nilv 5 1 (intsF []) rfl ?_
      refine W_ret ?_
      refine br ?_
      refine tr ?_
      refine tr ?_
      refine br ?_
      refine tr ?_
      have hr := hp0.symm.trans (pl_range hc1 (by omega) (any_at (n := n) (by omega) (by first | exact bad_lo (by omega) | exact bad_hi (by omega))))
      exact out3 4 5 6 (evV R0.out) (intsV R0.ws) (SV.i R0.e) (π := []) (hout := []) Tryd.results15 rfl rfl rfl (by rw [hr]; rfl) (by rw [hr]; rfl) (by rw [hr]; rfl) rfl rfl trivial ⟨rfl, rfl⟩
    try simp only [cs, ne_eq] at hc8
    refine W_skip ?_
    refine bn ?_
    refine tn ?_
    refine r0 ?_
    refine sA 37 105 1 rfl rfl rfl rfl rfl rfl rfl rfl rfl (by unfold inRange; omega) ?_
    refine s1 24 113 2 rfl rfl rfl rfl rfl rfl trivial ?_
    refine e1 121 rfl ?_
    refine tn ?_
    exact again ((n + 1 : Nat)) [0] (show (n + 1) ≤ sc.length ∧ ∀ j, j < (n + 1) → bad q (sc.getD j 0) = false from ⟨by omega, fun j hj => by by_cases e : j = n; (subst e; exact bad_no (by omega) (by omega)); exact hno j (by omega)⟩) (show sc.length - (n + 1) < sc.length - n from (by omega)) rfl ⟨rfl, rfl, rfl, rfl, rfl, trivial⟩ ⟨rfl, trivial⟩
  try simp only [cs, ne_eq] at hc6
  refine W_exit ?_
  refine tx ?_
  refine tx ?_
  refine bx ?_
  refine tn ?_
  have hM := hc1
  have hB : sc.any (bad q) = false := any_no (fun j hj => hno j (by omega))
  have hMw := mach_ws hM
  have hcl := fun j (hj : j < q.ts.length) => mach_calls hM hj
  refine r1 ?_
  refine s1 38 9 1 rfl rfl rfl rfl rfl rfl trivial ?_
  refine s1 39 17 2 rfl rfl rfl rfl rfl rfl (by first | trivial | omega) ?_
  refine s1 40 25 3 rfl rfl rfl rfl rfl rfl ⟨trivial, (by show q.ws.length * 8 ≤ 140737488355328; omega), (by simp only [maxLen]; omega)⟩ ?_
  refine s1 9 33 4 rfl rfl rfl rfl rfl rfl trivial ?_
  refine e1 41 rfl ?_
  refine keep [1, 2, 9] rfl ?_
  refine r1 ?_
  refine s1 10 41 1 rfl rfl rfl rfl rfl rfl trivial ?_
  refine e1 49 rfl ?_
  refine keep [1, 2, 9, 10] rfl ?_
  refine r1 ?_
  refine s1 11 49 1 rfl rfl rfl rfl rfl rfl trivial ?_
  refine e1 57 rfl ?_
  refine keep [1, 2, 9, 10, 11] rfl ?_
  refine r1 ?_
  refine s1 12 57 1 rfl rfl rfl rfl rfl rfl trivial ?_
  refine e1 65 rfl ?_
  refine keep [1, 2, 9, 10, 11, 12] rfl ?_
  refine W_seq ?_
  refine r1 ?_
  refine s1 41 65 1 rfl rfl rfl rfl rfl rfl trivial ?_
  refine s1 42 73 2 rfl rfl rfl rfl rfl rfl (by first | trivial | omega) ?_
  refine s1 43 81 3 rfl rfl rfl rfl rfl rfl trivial ?_
  refine e1 89 rfl ?_
  refine keep [2, 9, 10, 11, 12, 41, 42, 43] rfl ?_
  refine W_block ?_
  refine ccell 41 0 (.op 90000 false) rfl rfl (fun M ρ v h => nil_op h) ?_
  refine ccell 41 1 (.op 90001 false) rfl rfl (fun M ρ v h => nil_op h) ?_
  refine ccell 41 2 (.op 90002 false) rfl rfl (fun M ρ v h => nil_op h) ?_
  refine ccell 41 3 (.op 90003 false) rfl rfl (fun M ρ v h => nil_op h) ?_
  refine ghostly 12 39 6 (evF []) rfl ?_
  refine loop (α := Nat × (List Int) × (List Ev) × TS × TS × TS × TS × Wkr × Wkr × Wkr × Wkr) 17 (fun z => [(2, .ptr 0 0 0), (9, .sl 1 0 (z.2.1).length), (10, .ptr 3 0 0), (11, .ptr 4 0 0), (12, .sl 2 0 (z.2.2.1).length), (41, intsV sc), (42, SV.i sc.length), (43, SV.i (z.1))]) (fun z => [some (machBlk q), some (intsB (z.2.1)), some (evB (z.2.2.1)), some (.cells 69 4 [.op 5 (z.2.2.2.1).cur.isSome, .op 8 (z.2.2.2.2.1).cur.isSome, .op 11 (z.2.2.2.2.2.1).cur.isSome, .op 14 (z.2.2.2.2.2.2.1).cur.isSome]), some (.cells 43 4 [SV.i (z.2.2.2.1).nx, SV.i (z.2.2.2.2.1).nx, SV.i (z.2.2.2.2.2.1).nx, SV.i (z.2.2.2.2.2.2.1).nx]), wkO 6 7 (z.2.2.2.1).cur (z.2.2.2.2.2.2.2.1), wmO (z.2.2.2.1).cur (z.2.2.2.2.2.2.2.1), wtO (z.2.2.2.1).cur (z.2.2.2.2.2.2.2.1), wkO 9 10 (z.2.2.2.2.1).cur (z.2.2.2.2.2.2.2.2.1), wmO (z.2.2.2.2.1).cur (z.2.2.2.2.2.2.2.2.1), wtO (z.2.2.2.2.1).cur (z.2.2.2.2.2.2.2.2.1), wkO 12 13 (z.2.2.2.2.2.1).cur (z.2.2.2.2.2.2.2.2.2.1), wmO (z.2.2.2.2.2.1).cur (z.2.2.2.2.2.2.2.2.2.1), wtO (z.2.2.2.2.2.1).cur (z.2.2.2.2.2.2.2.2.2.1), wkO 15 16 (z.2.2.2.2.2.2.1).cur (z.2.2.2.2.2.2.2.2.2.2), wmO (z.2.2.2.2.2.2.1).cur (z.2.2.2.2.2.2.2.2.2.2), wtO (z.2.2.2.2.2.2.1).cur (z.2.2.2.2.2.2.2.2.2.2)]) (fun z => (z.1) ≤ sc.length ∧ prun q (sc.drop (z.1)) (z.1) ⟨(z.2.1), (z.2.2.1), ([(z.2.2.2.1), (z.2.2.2.2.1), (z.2.2.2.2.2.1), (z.2.2.2.2.2.2.1)] : List TS).take q.ts.length⟩ = prun q sc 0 (pinit q) ∧ (z.2.1).length = q.ws.length ∧ (z.2.2.1).length ≤ 2 * (z.1) ∧ (∀ i, inRange ((z.2.1).getD i 0)) ∧ TSok q 0 (z.2.2.2.1) ∧ RSok (z.2.1) (z.2.2.2.1) (z.2.2.2.2.2.2.2.1) ∧ TSok q 1 (z.2.2.2.2.1) ∧ RSok (z.2.1) (z.2.2.2.2.1) (z.2.2.2.2.2.2.2.2.1) ∧ TSok q 2 (z.2.2.2.2.2.1) ∧ RSok (z.2.1) (z.2.2.2.2.2.1) (z.2.2.2.2.2.2.2.2.2.1) ∧ TSok q 3 (z.2.2.2.2.2.2.1) ∧ RSok (z.2.1) (z.2.2.2.2.2.2.1) (z.2.2.2.2.2.2.2.2.2.2)) (fun z => sc.length - (z.1)) (((0, q.ws, [], ⟨0, none⟩, ⟨0, none⟩, ⟨0, none⟩, ⟨0, none⟩, ⟨[], 0, [], 0, true⟩, ⟨[], 0, [], 0, true⟩, ⟨[], 0, [], 0, true⟩, ⟨[], 0, [], 0, true⟩) : Nat × (List Int) × (List Ev) × TS × TS × TS × TS × Wkr × Wkr × Wkr × Wkr)) [0, 25, 89, 41, 49, 90000, 90010, 90020, 90001, 90011, 90021, 90002, 90012, 90022, 90003, 90013, 90023] (fun _ => rfl) (show (0) ≤ sc.length ∧ prun q (sc.drop (0)) (0) ⟨(q.ws), ([]), ([(⟨0, none⟩), (⟨0, none⟩), (⟨0, none⟩), (⟨0, none⟩)] : List TS).take q.ts.length⟩ = prun q sc 0 (pinit q) ∧ (q.ws).length = q.ws.length ∧ ([]).length ≤ 2 * (0) ∧ (∀ i, inRange ((q.ws).getD i 0)) ∧ TSok q 0 (⟨0, none⟩) ∧ RSok (q.ws) (⟨0, none⟩) (⟨[], 0, [], 0, true⟩) ∧ TSok q 1 (⟨0, none⟩) ∧ RSok (q.ws) (⟨0, none⟩) (⟨[], 0, [], 0, true⟩) ∧ TSok q 2 (⟨0, none⟩) ∧ RSok (q.ws) (⟨0, none⟩) (⟨[], 0, [], 0, true⟩) ∧ TSok q 3 (⟨0, none⟩) ∧ RSok (q.ws) (⟨0, none⟩) (⟨[], 0, [], 0, true⟩) from ⟨by omega, by rw [pinit_tk hMw.2]; rfl, rfl, by simp, hmr.ws, ok_init q 0, rs_none, ok_init q 1, rs_none, ok_init q 2, rs_none, ok_init q 3, rs_none⟩) rfl ⟨rfl, rfl, rfl, rfl, rfl, rfl, rfl, rfl, trivial⟩ ⟨rfl, rfl, rfl, rfl, rfl, trivial⟩ (fun z hx => ?_)
  obtain ⟨k, ws, out, s0, s1, s2, s3, w0, w1, w2, w3⟩ := z
  show W _ _ _ ⟨tOf [(2, .ptr 0 0 0), (9, .sl 1 0 ws.length), (10, .ptr 3 0 0), (11, .ptr 4 0 0), (12, .sl 2 0 out.length), (41, intsV sc), (42, SV.i sc.length), (43, SV.i k)], hOf [some (machBlk q), some (intsB ws), some (evB out), some (.cells 69 4 [.op 5 s0.cur.isSome, .op 8 s1.cur.isSome, .op 11 s2.cur.isSome, .op 14 s3.cur.isSome]), some (.cells 43 4 [SV.i s0.nx, SV.i s1.nx, SV.i s2.nx, SV.i s3.nx]), wkO 6 7 s0.cur w0, wmO s0.cur w0, wtO s0.cur w0, wkO 9 10 s1.cur w1, wmO s1.cur w1, wtO s1.cur w1, wkO 12 13 s2.cur w2, wmO s2.cur w2, wtO s2.cur w2, wkO 15 16 s3.cur w3, wmO s3.cur w3, wtO s3.cur w3], 17⟩
  have hx : k ≤ sc.length ∧ prun q (sc.drop k) k ⟨ws, out, ([s0, s1, s2, s3] : List TS).take q.ts.length⟩ = prun q sc 0 (pinit q) ∧ ws.length = q.ws.length ∧ out.length ≤ 2 * k ∧ (∀ i, inRange (ws.getD i 0)) ∧ TSok q 0 s0 ∧ RSok ws s0 w0 ∧ TSok q 1 s1 ∧ RSok ws s1 w1 ∧ TSok q 2 s2 ∧ RSok ws s2 w2 ∧ TSok q 3 s3 ∧ RSok ws s3 w3 := hx
  obtain ⟨hk, hrun, hwl, hol, hwr, hs0, hr0, hs1, hr1, hs2, hr2, hs3, hr3⟩ := hx
  obtain ⟨x0, cu0⟩ := s0
  obtain ⟨x1, cu1⟩ := s1
  obtain ⟨x2, cu2⟩ := s2
  obtain ⟨x3, cu3⟩ := s3
  have hq20_0 := thr_short hM 0
  have hq20_1 := thr_short hM 1
  have hq20_2 := thr_short hM 2
  have hq20_3 := thr_short hM 3
  refine r1 ?_
  refine s1 44 17 1 rfl rfl rfl rfl rfl rfl (by first | trivial | omega) ?_
  refine e1 25 rfl ?_
  refine keep [2, 9, 10, 11, 12, 41, 42, 43, 44] rfl ?_
  refine W_seq ?_
  refine q1 rfl (fun hc16 => ?_) (fun hc16 => ?_)
  · skip
    try simp only [cs, ne_eq] at hc16
    refine W_skip ?_
    refine tn ?_
    refine W_seq ?_
    refine W_block ?_
    refine r1 ?_
    refine s1 45 25 1 rfl rfl rfl rfl rfl rfl trivial ?_
    refine s1 46 33 2 rfl rfl rfl rfl rfl rfl (by first | trivial | omega) ?_
    refine s1 47 41 3 rfl rfl rfl rfl rfl rfl (by omega) ?_
    refine val 47 (SV.i (sc.getD k 0)) rfl (by simp only [Int.toNat_natCast]) ?_
    refine s1 13 49 4 rfl rfl rfl rfl rfl rfl trivial ?_
    refine s1 14 57 5 rfl rfl rfl rfl rfl rfl trivial ?_
    refine e1 65 rfl ?_
    refine keep [2, 9, 10, 11, 12, 13, 14, 41, 42, 43] rfl ?_
    refine W_seq ?_
    have hin := sched_in hB (show k < sc.length by omega)
    rcases (show sc.getD k 0 = ((0 : Nat) : Int) ∨ sc.getD k 0 = ((1 : Nat) : Int) ∨ sc.getD k 0 = ((2 : Nat) : Int) ∨ sc.getD k 0 = ((3 : Nat) : Int) from by omega) with hv | hv | hv | hv
    · skip
      refine cval 14 (SV.i ((0 : Nat) : Int)) rfl (by rw [hv]) ?_
      have hx20 : 0 ≤ x0 ∧ x0 ≤ ((q.ts.getD 0 []).length : Int) := hs0.nx
      rcases cu0 with _ | ⟨C, t⟩
      · skip
        refine ccell 3 0 (.d (.val (.pointer none))) rfl rfl (fun M ρ v h => op_nil h) ?_
        refine r1 ?_
        refine s1 48 65 1 rfl rfl rfl rfl rfl rfl trivial ?_
        refine s1 49 73 2 rfl rfl rfl rfl rfl rfl (by first | trivial | omega) ?_
        refine s1 50 81 3 rfl rfl rfl rfl rfl rfl (by first | trivial | omega) ?_
        refine sNilP 51 89 4 rfl rfl rfl rfl rfl rfl rfl rfl ?_
        refine e1 97 rfl ?_
        refine keep [2, 9, 10, 11, 12, 13, 14, 41, 42, 43, 51] rfl ?_
        refine q1 rfl (fun hc18 => ?_) (fun hc18 => ?_)
        · skip
          try simp only [cs, ne_eq] at hc18
          refine W_seq ?_
          refine rd1 rfl ?_
          refine d1 52 97 1 rfl rfl rfl rfl rfl rfl trivial ?_
          refine d1 53 105 2 rfl rfl rfl rfl rfl rfl (by first | trivial | omega) ?_
          refine d1 54 113 3 rfl rfl rfl rfl rfl rfl (by first | trivial | omega) ?_
          refine d1 55 121 4 rfl rfl rfl rfl rfl rfl trivial ?_
          refine d1 56 129 5 rfl rfl rfl rfl rfl rfl (by first | trivial | omega) ?_
          refine d1 57 137 6 rfl rfl rfl rfl rfl rfl trivial ?_
          refine d1 58 145 7 rfl rfl rfl rfl rfl rfl (by omega) ?_
          refine d1 59 153 8 rfl rfl rfl rfl rfl rfl (by first | trivial | omega) ?_
          refine d1 60 161 9 rfl rfl rfl rfl rfl rfl (by first | trivial | omega) ?_
          refine d1 61 169 10 rfl rfl rfl rfl rfl rfl (by first | trivial | omega) ?_
          refine de1 177 rfl (by kernel_rfl) ?_
          refine keep [2, 9, 10, 11, 12, 13, 14, 41, 42, 43, 61] rfl ?_
          refine q1 rfl (fun hc19 => ?_) (fun hc19 => ?_)
          · skip
            try simp only [cs, ne_eq] at hc19
            simp only [Int.toNat_natCast] at hc19
            have hlt : ¬ x0 < (q.ts.getD 0 []).length := (by omega)
            refine W_exit ?_
            refine tx ?_
            refine tx ?_
            refine bx ?_
            refine tn ?_
            refine ccell 3 0 (.op 5 false) rfl rfl (fun M ρ v h => nil_op (show VR M ρ (.d (.val (.pointer none))) v from h)) ?_
            refine r0 ?_
            refine sA 132 177 1 rfl rfl rfl rfl rfl rfl rfl rfl rfl (by unfold inRange; omega) ?_
            refine s1 43 185 2 rfl rfl rfl rfl rfl rfl trivial ?_
            refine e1 193 rfl ?_
            refine tn ?_
            exact again (((k + 1, ws, out, ⟨x0, none⟩, ⟨x1, cu1⟩, ⟨x2, cu2⟩, ⟨x3, cu3⟩, w0, w1, w2, w3) : Nat × (List Int) × (List Ev) × TS × TS × TS × TS × Wkr × Wkr × Wkr × Wkr)) [0, 1, 2, 3, 4, 5, 6, 7, 8, 9, 10, 11, 12, 13, 14, 15, 16] (show (k + 1) ≤ sc.length ∧ prun q (sc.drop (k + 1)) (k + 1) ⟨(ws), (out), ([(⟨x0, none⟩), (⟨x1, cu1⟩), (⟨x2, cu2⟩), (⟨x3, cu3⟩)] : List TS).take q.ts.length⟩ = prun q sc 0 (pinit q) ∧ (ws).length = q.ws.length ∧ (out).length ≤ 2 * (k + 1) ∧ (∀ i, inRange ((ws).getD i 0)) ∧ TSok q 0 (⟨x0, none⟩) ∧ RSok (ws) (⟨x0, none⟩) (w0) ∧ TSok q 1 (⟨x1, cu1⟩) ∧ RSok (ws) (⟨x1, cu1⟩) (w1) ∧ TSok q 2 (⟨x2, cu2⟩) ∧ RSok (ws) (⟨x2, cu2⟩) (w2) ∧ TSok q 3 (⟨x3, cu3⟩) ∧ RSok (ws) (⟨x3, cu3⟩) (w3) from ⟨by omega, (by rw [← hrun, prun_at (k := k) (by omega), hv, Int.toNat_natCast, pstep_tk (by omega) (pb_idle hlt)]; rfl), hwl, (by omega), hwr, hs0, hr0, hs1, hr1, hs2, hr2, hs3, hr3⟩) (show sc.length - (k + 1) < sc.length - k from (by omega)) (by rcases cu1 with _ | ⟨D1, u1⟩ <;> rcases cu2 with _ | ⟨D2, u2⟩ <;> rcases cu3 with _ | ⟨D3, u3⟩ <;> rfl) ⟨rfl, rfl, rfl, rfl, rfl, rfl, rfl, rfl, trivial⟩ (by rcases cu1 with _ | ⟨D1, u1⟩ <;> rcases cu2 with _ | ⟨D2, u2⟩ <;> rcases cu3 with _ | ⟨D3, u3⟩ <;> (repeat' first | exact trivial | refine ⟨rfl, ?_⟩))
          try simp only [cs, ne_eq] at hc19
          simp only [Int.toNat_natCast] at hc19
          have hlt : x0 < (q.ts.getD 0 []).length := (by omega)
          obtain ⟨hcc1, hcc2, hcc3, hcode⟩ := hcl 0 (by omega) x0 hx20.1 hlt
          have hc12 : 0 ≤ ((q.ts.getD 0 []).getD x0.toNat default).code ∧ ((q.ts.getD 0 []).getD x0.toNat default).code < q.cs.length := ⟨hcc1, hcc2⟩
          refine W_skip ?_
          refine tn ?_
          refine rd1 rfl ?_
          refine d1 62 177 1 rfl rfl rfl rfl rfl rfl trivial ?_
          refine d1 63 185 2 rfl rfl rfl rfl rfl rfl (by first | trivial | omega) ?_
          refine d1 64 193 3 rfl rfl rfl rfl rfl rfl trivial ?_
          refine d1 65 201 4 rfl rfl rfl rfl rfl rfl (by omega) ?_
          refine d1 66 209 5 rfl rfl rfl rfl rfl rfl (by first | trivial | omega) ?_
          refine d1 67 217 6 rfl rfl rfl rfl rfl rfl trivial ?_
          refine d1 68 225 7 rfl rfl rfl rfl rfl rfl (by first | trivial | omega) ?_
          refine d1 69 233 8 rfl rfl rfl rfl rfl rfl (by first | trivial | omega) ?_
          refine d1 70 241 9 rfl rfl rfl rfl rfl rfl (by first | trivial | omega | (simp only [Int.toNat_natCast]; omega)) ?_
          refine d1 71 249 10 rfl rfl rfl rfl rfl rfl (by first | trivial | omega | (simp only [Int.toNat_natCast]; omega)) ?_
          refine d1 15 257 11 rfl rfl rfl rfl rfl rfl trivial ?_
          refine d0 265 12 rfl rfl rfl rfl rfl (by first | trivial | omega) ?_
          refine de1 273 rfl (by kernel_rfl) ?_
          refine keep [2, 9, 10, 11, 12, 13, 14, 15, 41, 42, 43] rfl ?_
          refine rd1 rfl ?_
          refine d1 72 273 1 rfl rfl rfl rfl rfl rfl trivial ?_
          refine d1 73 281 2 rfl rfl rfl rfl rfl rfl trivial ?_
          refine d1 74 289 3 rfl rfl rfl rfl rfl rfl (by first | trivial | omega) ?_
          refine d1 75 297 4 rfl rfl rfl rfl rfl rfl trivial ?_
          refine d1 76 305 5 rfl rfl rfl rfl rfl rfl (by first | trivial | omega) ?_
          refine d1 77 313 6 rfl rfl rfl rfl rfl rfl (by first | trivial | omega | (simp only [Int.toNat_natCast]; omega)) ?_
          refine d1 78 321 7 rfl rfl rfl rfl rfl rfl (by first | trivial | omega | (simp only [Int.toNat_natCast]; omega)) ?_
          refine d1 79 329 8 rfl rfl rfl rfl rfl rfl trivial ?_
          refine d1 80 337 9 rfl rfl rfl rfl rfl rfl (by first | trivial | omega) ?_
          refine dc1 (worker_any (codeOf q 0 x0) (callAt q 0 x0).args (by omega)) [] [345, 346] 81 345 10 rfl rfl rfl rfl rfl rfl rfl rfl Tryd.func22 rfl rfl rfl rfl trivial rfl rfl ?_
          refine d1 82 353 11 rfl rfl rfl rfl rfl rfl (by first | trivial | omega) ?_
          refine d0 361 12 rfl rfl rfl rfl rfl (by first | trivial | omega) ?_
          refine de1 369 rfl (by kernel_rfl) ?_
          refine keep [2, 9, 10, 11, 12, 13, 14, 41, 42, 43] rfl ?_
          refine r1 ?_
          refine s1 83 369 1 rfl rfl rfl rfl rfl rfl trivial ?_
          refine s1 84 377 2 rfl rfl rfl rfl rfl rfl trivial ?_
          refine s1 85 385 3 rfl rfl rfl rfl rfl rfl trivial ?_
          refine s1 86 393 4 rfl rfl rfl rfl rfl rfl trivial ?_
          refine s1 87 401 5 rfl rfl rfl rfl rfl rfl (by first | trivial | omega) ?_
          refine s1 88 409 6 rfl rfl rfl rfl rfl rfl (by first | trivial | omega) ?_
          refine s1 89 417 7 rfl rfl rfl rfl rfl rfl trivial ?_
          refine s1 90 425 8 rfl rfl rfl rfl rfl rfl trivial ?_
          refine s1 91 433 9 rfl rfl rfl rfl rfl rfl ⟨Nat.le_refl _, trivial, (by show (out.length + 1) * 64 ≤ 140737488355328; omega), (by simp only [maxLen]; omega)⟩ ?_
          refine s1 12 441 10 rfl rfl rfl rfl rfl rfl trivial ?_
          refine e1 449 rfl ?_
          refine keep [2, 9, 10, 11, 12, 13, 14, 41, 42, 43] rfl ?_
          refine r0 ?_
          refine s1 92 449 1 rfl rfl rfl rfl rfl rfl trivial ?_
          refine s1 93 457 2 rfl rfl rfl rfl rfl rfl (by first | trivial | omega) ?_
          refine s1 94 465 3 rfl rfl rfl rfl rfl rfl (by first | trivial | omega) ?_
          refine sA 95 473 4 rfl rfl rfl rfl rfl rfl rfl rfl rfl (by unfold inRange; dsimp only; omega) ?_
          refine s1 96 481 5 rfl rfl rfl rfl rfl rfl (by first | trivial | omega) ?_
          refine s0 489 6 rfl rfl rfl rfl rfl (by first | trivial | omega) ?_
          refine e1 497 rfl ?_
          refine tn ?_
          refine cghostly 345 3 3 1 (intsF []) rfl rfl rfl ?_
          refine rowsw 433 (out ++ [(Ev.mk k ((0 : Nat) : Int) x0 false 0 [])]).length (evF (out ++ [(Ev.mk k ((0 : Nat) : Int) x0 false 0 [])])) rfl (by simp) (fun i c hi hc M v h => ev_cat0 out _ _ _ i c hi hc M v h) ?_
          refine cval 12 (.sl 433 0 (out ++ [(Ev.mk k ((0 : Nat) : Int) x0 false 0 [])]).length) rfl (by simp) ?_
          have hrel := new_rel (codeOf q 0 x0) (callAt q 0 x0).args
          have hrng : Rng ((vnew (codeOf q 0 x0) (callAt q 0 x0).args), ws) := new_rng (hmr.args 0 x0) hwr
          have hcr : CRng (codeOf q 0 x0) := hmr.cs _
          have hC := hcode
          have hvn := vnew_ok (C := (codeOf q 0 x0)) (l := (callAt q 0 x0).args) (ws := ws)
          have hpc := hvn.pc
          have htl := hvn.told
          have haf := rel_step hC hrel hrng hpc htl
          have hlv : Live ws.length (codeOf q 0 x0) (vnew (codeOf q 0 x0) (callAt q 0 x0).args) ws := ⟨hC, ⟨hpc, htl, rfl⟩⟩
          have hwl2 := ws_len hlv rfl
          have hrg2 := vstep_rng hcr hrng
          refine r1 ?_
          refine s1 97 505 1 rfl rfl rfl rfl rfl rfl trivial ?_
          refine s1 98 513 2 rfl rfl rfl rfl rfl rfl (by first | trivial | omega) ?_
          refine s1 99 521 3 rfl rfl rfl rfl rfl rfl (by first | trivial | omega) ?_
          refine s1 100 529 4 rfl rfl rfl rfl rfl rfl trivial ?_
          refine c1 (one_any (codeOf q 0 x0) (wnew (codeOf q 0 x0) (callAt q 0 x0).args) ws hC (rel_pc hrel hpc) (by omega) (by rw [hrel.told]; exact htl) _ rfl) [345, 346, 497, 1] [345, 346, 497, 1, 537] 101 537 5 rfl rfl rfl rfl rfl rfl rfl rfl Tryd.func23 rfl rfl rfl rfl ⟨rfl, rfl, rfl, rfl, trivial⟩ rfl rfl ?_
          refine e1 545 rfl ?_
          refine keep [2, 9, 10, 11, 12, 13, 14, 41, 42, 43] rfl ?_
          refine cval 9 (.sl 1 0 (rone (codeOf q 0 x0) ws (wnew (codeOf q 0 x0) (callAt q 0 x0).args)).2.length) rfl (by rw [haf.2, hwl2]) ?_
          refine r1 ?_
          refine s1 102 545 1 rfl rfl rfl rfl rfl rfl trivial ?_
          refine s1 103 553 2 rfl rfl rfl rfl rfl rfl (by first | trivial | omega) ?_
          refine s1 104 561 3 rfl rfl rfl rfl rfl rfl (by first | trivial | omega) ?_
          refine s1 105 569 4 rfl rfl rfl rfl rfl rfl trivial ?_
          refine s1 106 577 5 rfl rfl rfl rfl rfl rfl trivial ?_
          refine s1 107 585 6 rfl rfl rfl rfl rfl rfl (by first | trivial | omega) ?_
          refine e1 593 rfl ?_
          refine keep [2, 9, 10, 11, 12, 13, 14, 41, 42, 43, 107] rfl ?_
          refine q1 rfl (fun hc25 => ?_) (fun hc25 => ?_)
          · skip
            try simp only [cs, ne_eq] at hc25
            have hov := hc25
            refine cfreeze 345 3 537 (rone (codeOf q 0 x0) ws (wnew (codeOf q 0 x0) (callAt q 0 x0).args)).1.told.length rfl rfl rfl (Nat.le_refl _) rfl ?_
            refine rd1 rfl ?_
            refine d1 108 593 1 rfl rfl rfl rfl rfl rfl trivial ?_
            refine d1 109 601 2 rfl rfl rfl rfl rfl rfl trivial ?_
            refine d1 110 609 3 rfl rfl rfl rfl rfl rfl trivial ?_
            refine d1 111 617 4 rfl rfl rfl rfl rfl rfl trivial ?_
            refine d1 112 625 5 rfl rfl rfl rfl rfl rfl (by first | trivial | omega) ?_
            refine d1 113 633 6 rfl rfl rfl rfl rfl rfl (by first | trivial | omega) ?_
            refine dA 114 641 7 rfl rfl rfl rfl rfl rfl rfl rfl rfl (by unfold inRange; dsimp only; omega) ?_
            refine d1 115 649 8 rfl rfl rfl rfl rfl rfl trivial ?_
            refine d1 116 657 9 rfl rfl rfl rfl rfl rfl (by first | trivial | omega) ?_
            refine d1 117 665 10 rfl rfl rfl rfl rfl rfl (by first | trivial | omega) ?_
            refine d1 118 673 11 rfl rfl rfl rfl rfl rfl trivial ?_
            refine d1 119 681 12 rfl rfl rfl rfl rfl rfl trivial ?_
            refine d1 120 689 13 rfl rfl rfl rfl rfl rfl (by first | trivial | omega) ?_
            refine d1 121 697 14 rfl rfl rfl rfl rfl rfl trivial ?_
            refine d1 122 705 15 rfl rfl rfl rfl rfl rfl (by first | trivial | omega) ?_
            refine d1 123 713 16 rfl rfl rfl rfl rfl rfl (by first | trivial | omega) ?_
            refine d1 124 721 17 rfl rfl rfl rfl rfl rfl trivial ?_
            refine d1 125 729 18 rfl rfl rfl rfl rfl rfl trivial ?_
            refine d1 126 737 19 rfl rfl rfl rfl rfl rfl (by first | trivial | omega) ?_
            refine d1 127 745 20 rfl rfl rfl rfl rfl rfl trivial ?_
            refine d1 128 753 21 rfl rfl rfl rfl rfl rfl trivial ?_
            refine d1 129 761 22 rfl rfl rfl rfl rfl rfl ⟨Nat.le_refl _, trivial, (by first | (show (out.length + 1) * 64 ≤ 140737488355328; omega) | (show ((out ++ [_]).length + 1) * 64 ≤ 140737488355328; rw [List.length_append, List.length_singleton]; omega)), (by first | (simp only [maxLen]; omega) | (simp only [maxLen, List.length_append, List.length_singleton]; omega))⟩ ?_
            refine d1 12 769 23 rfl rfl rfl rfl rfl rfl trivial ?_
            refine de1 777 rfl (by kernel_rfl) ?_
            refine keep [2, 9, 10, 11, 12, 14, 41, 42, 43] rfl ?_
            refine rowsc 761 ((out ++ [(Ev.mk k ((0 : Nat) : Int) x0 false 0 [])]) ++ [(Ev.mk k ((0 : Nat) : Int) ((x0 + 1) - 1) true (rone (codeOf q 0 x0) ws (wnew (codeOf q 0 x0) (callAt q 0 x0).args)).1.e (rone (codeOf q 0 x0) ws (wnew (codeOf q 0 x0) (callAt q 0 x0).args)).1.told)]).length (evF ((out ++ [(Ev.mk k ((0 : Nat) : Int) x0 false 0 [])]) ++ [(Ev.mk k ((0 : Nat) : Int) ((x0 + 1) - 1) true (rone (codeOf q 0 x0) ws (wnew (codeOf q 0 x0) (callAt q 0 x0).args)).1.e (rone (codeOf q 0 x0) ws (wnew (codeOf q 0 x0) (callAt q 0 x0).args)).1.told)])) rfl (by simp) (fun i c hi hc => ev_cat (out ++ [(Ev.mk k ((0 : Nat) : Int) x0 false 0 [])]) _ _ _ _ _ _ i c hi hc) ?_
            refine cval 12 (.sl 761 0 ((out ++ [(Ev.mk k ((0 : Nat) : Int) x0 false 0 [])]) ++ [(Ev.mk k ((0 : Nat) : Int) ((x0 + 1) - 1) true (rone (codeOf q 0 x0) ws (wnew (codeOf q 0 x0) (callAt q 0 x0).args)).1.e (rone (codeOf q 0 x0) ws (wnew (codeOf q 0 x0) (callAt q 0 x0).args)).1.told)]).length) rfl (by simp) ?_
            refine r0 ?_
            refine s1 130 777 1 rfl rfl rfl rfl rfl rfl trivial ?_
            refine s1 131 785 2 rfl rfl rfl rfl rfl rfl (by first | trivial | omega) ?_
            refine s0 793 3 rfl rfl rfl rfl rfl (by first | trivial | omega) ?_
            refine e1 801 rfl ?_
            refine bn ?_
            refine tn ?_
            refine ccell 3 0 (.op 5 false) rfl rfl (fun M ρ v h => nil_op (show VR M ρ (.d (.val (.pointer none))) v from h)) ?_
            have hwr2 : ∀ i, inRange ((rone (codeOf q 0 x0) ws (wnew (codeOf q 0 x0) (callAt q 0 x0).args)).2.getD i 0) := fun i => by rw [haf.2]; exact hrg2.2 i
            refine r0 ?_
            refine sA 132 801 1 rfl rfl rfl rfl rfl rfl rfl rfl rfl (by unfold inRange; omega) ?_
            refine s1 43 809 2 rfl rfl rfl rfl rfl rfl trivial ?_
            refine e1 817 rfl ?_
            refine tn ?_
            exact again (((k + 1, (rone (codeOf q 0 x0) ws (wnew (codeOf q 0 x0) (callAt q 0 x0).args)).2, ((out ++ [(Ev.mk k ((0 : Nat) : Int) x0 false 0 [])]) ++ [(Ev.mk k ((0 : Nat) : Int) ((x0 + 1) - 1) true (rone (codeOf q 0 x0) ws (wnew (codeOf q 0 x0) (callAt q 0 x0).args)).1.e (rone (codeOf q 0 x0) ws (wnew (codeOf q 0 x0) (callAt q 0 x0).args)).1.told)]), ⟨(x0 + 1), none⟩, ⟨x1, cu1⟩, ⟨x2, cu2⟩, ⟨x3, cu3⟩, w0, w1, w2, w3) : Nat × (List Int) × (List Ev) × TS × TS × TS × TS × Wkr × Wkr × Wkr × Wkr)) [0, 1, 761, 3, 4, 5, 6, 7, 8, 9, 10, 11, 12, 13, 14, 15, 16] (show (k + 1) ≤ sc.length ∧ prun q (sc.drop (k + 1)) (k + 1) ⟨((rone (codeOf q 0 x0) ws (wnew (codeOf q 0 x0) (callAt q 0 x0).args)).2), (((out ++ [(Ev.mk k ((0 : Nat) : Int) x0 false 0 [])]) ++ [(Ev.mk k ((0 : Nat) : Int) ((x0 + 1) - 1) true (rone (codeOf q 0 x0) ws (wnew (codeOf q 0 x0) (callAt q 0 x0).args)).1.e (rone (codeOf q 0 x0) ws (wnew (codeOf q 0 x0) (callAt q 0 x0).args)).1.told)])), ([(⟨(x0 + 1), none⟩), (⟨x1, cu1⟩), (⟨x2, cu2⟩), (⟨x3, cu3⟩)] : List TS).take q.ts.length⟩ = prun q sc 0 (pinit q) ∧ ((rone (codeOf q 0 x0) ws (wnew (codeOf q 0 x0) (callAt q 0 x0).args)).2).length = q.ws.length ∧ (((out ++ [(Ev.mk k ((0 : Nat) : Int) x0 false 0 [])]) ++ [(Ev.mk k ((0 : Nat) : Int) ((x0 + 1) - 1) true (rone (codeOf q 0 x0) ws (wnew (codeOf q 0 x0) (callAt q 0 x0).args)).1.e (rone (codeOf q 0 x0) ws (wnew (codeOf q 0 x0) (callAt q 0 x0).args)).1.told)])).length ≤ 2 * (k + 1) ∧ (∀ i, inRange (((rone (codeOf q 0 x0) ws (wnew (codeOf q 0 x0) (callAt q 0 x0).args)).2).getD i 0)) ∧ TSok q 0 (⟨(x0 + 1), none⟩) ∧ RSok ((rone (codeOf q 0 x0) ws (wnew (codeOf q 0 x0) (callAt q 0 x0).args)).2) (⟨(x0 + 1), none⟩) (w0) ∧ TSok q 1 (⟨x1, cu1⟩) ∧ RSok ((rone (codeOf q 0 x0) ws (wnew (codeOf q 0 x0) (callAt q 0 x0).args)).2) (⟨x1, cu1⟩) (w1) ∧ TSok q 2 (⟨x2, cu2⟩) ∧ RSok ((rone (codeOf q 0 x0) ws (wnew (codeOf q 0 x0) (callAt q 0 x0).args)).2) (⟨x2, cu2⟩) (w2) ∧ TSok q 3 (⟨x3, cu3⟩) ∧ RSok ((rone (codeOf q 0 x0) ws (wnew (codeOf q 0 x0) (callAt q 0 x0).args)).2) (⟨x3, cu3⟩) (w3) from ⟨by omega, (by rw [← hrun, prun_at (k := k) (by omega), hv, Int.toNat_natCast, pstep_tk (by omega) ((pb_begin hlt).trans (goW_over haf hov))]; rfl), (by rw [← hwl, ← hwl2, haf.2]), (by simp only [List.length_append, List.length_singleton]; omega), hwr2, (ok_over (by omega)), rs_none, hs1, rs_ws hr1 hwr2, hs2, rs_ws hr2 hwr2, hs3, rs_ws hr3 hwr2⟩) (show sc.length - (k + 1) < sc.length - k from (by omega)) (by rcases cu1 with _ | ⟨D1, u1⟩ <;> rcases cu2 with _ | ⟨D2, u2⟩ <;> rcases cu3 with _ | ⟨D3, u3⟩ <;> rfl) ⟨rfl, rfl, rfl, rfl, rfl, rfl, rfl, rfl, trivial⟩ (by rcases cu1 with _ | ⟨D1, u1⟩ <;> rcases cu2 with _ | ⟨D2, u2⟩ <;> rcases cu3 with _ | ⟨D3, u3⟩ <;> (repeat' first | exact trivial | refine ⟨rfl, ?_⟩))
          try simp only [cs, ne_eq] at hc25
          refine W_skip ?_
          refine bn ?_
          refine tn ?_
          have hov := hc25
          refine ccell 3 0 (.op 345 true) rfl rfl (fun M ρ v h => ptr_op h) ?_
          have hwr2 : ∀ i, inRange ((rone (codeOf q 0 x0) ws (wnew (codeOf q 0 x0) (callAt q 0 x0).args)).2.getD i 0) := fun i => by rw [haf.2]; exact hrg2.2 i
          refine r0 ?_
          refine sA 132 593 1 rfl rfl rfl rfl rfl rfl rfl rfl rfl (by unfold inRange; omega) ?_
          refine s1 43 601 2 rfl rfl rfl rfl rfl rfl trivial ?_
          refine e1 609 rfl ?_
          refine tn ?_
          exact again (((k + 1, (rone (codeOf q 0 x0) ws (wnew (codeOf q 0 x0) (callAt q 0 x0).args)).2, (out ++ [(Ev.mk k ((0 : Nat) : Int) x0 false 0 [])]), ⟨(x0 + 1), some ((codeOf q 0 x0), (vstep (codeOf q 0 x0) ws (vnew (codeOf q 0 x0) (callAt q 0 x0).args)).1)⟩, ⟨x1, cu1⟩, ⟨x2, cu2⟩, ⟨x3, cu3⟩, (rone (codeOf q 0 x0) ws (wnew (codeOf q 0 x0) (callAt q 0 x0).args)).1, w1, w2, w3) : Nat × (List Int) × (List Ev) × TS × TS × TS × TS × Wkr × Wkr × Wkr × Wkr)) [0, 1, 433, 3, 4, 345, 346, 537, 8, 9, 10, 11, 12, 13, 14, 15, 16] (show (k + 1) ≤ sc.length ∧ prun q (sc.drop (k + 1)) (k + 1) ⟨((rone (codeOf q 0 x0) ws (wnew (codeOf q 0 x0) (callAt q 0 x0).args)).2), ((out ++ [(Ev.mk k ((0 : Nat) : Int) x0 false 0 [])])), ([(⟨(x0 + 1), some ((codeOf q 0 x0), (vstep (codeOf q 0 x0) ws (vnew (codeOf q 0 x0) (callAt q 0 x0).args)).1)⟩), (⟨x1, cu1⟩), (⟨x2, cu2⟩), (⟨x3, cu3⟩)] : List TS).take q.ts.length⟩ = prun q sc 0 (pinit q) ∧ ((rone (codeOf q 0 x0) ws (wnew (codeOf q 0 x0) (callAt q 0 x0).args)).2).length = q.ws.length ∧ ((out ++ [(Ev.mk k ((0 : Nat) : Int) x0 false 0 [])])).length ≤ 2 * (k + 1) ∧ (∀ i, inRange (((rone (codeOf q 0 x0) ws (wnew (codeOf q 0 x0) (callAt q 0 x0).args)).2).getD i 0)) ∧ TSok q 0 (⟨(x0 + 1), some ((codeOf q 0 x0), (vstep (codeOf q 0 x0) ws (vnew (codeOf q 0 x0) (callAt q 0 x0).args)).1)⟩) ∧ RSok ((rone (codeOf q 0 x0) ws (wnew (codeOf q 0 x0) (callAt q 0 x0).args)).2) (⟨(x0 + 1), some ((codeOf q 0 x0), (vstep (codeOf q 0 x0) ws (vnew (codeOf q 0 x0) (callAt q 0 x0).args)).1)⟩) ((rone (codeOf q 0 x0) ws (wnew (codeOf q 0 x0) (callAt q 0 x0).args)).1) ∧ TSok q 1 (⟨x1, cu1⟩) ∧ RSok ((rone (codeOf q 0 x0) ws (wnew (codeOf q 0 x0) (callAt q 0 x0).args)).2) (⟨x1, cu1⟩) (w1) ∧ TSok q 2 (⟨x2, cu2⟩) ∧ RSok ((rone (codeOf q 0 x0) ws (wnew (codeOf q 0 x0) (callAt q 0 x0).args)).2) (⟨x2, cu2⟩) (w2) ∧ TSok q 3 (⟨x3, cu3⟩) ∧ RSok ((rone (codeOf q 0 x0) ws (wnew (codeOf q 0 x0) (callAt q 0 x0).args)).2) (⟨x3, cu3⟩) (w3) from ⟨by omega, (by rw [← hrun, prun_at (k := k) (by omega), hv, Int.toNat_natCast, pstep_tk (by omega) ((pb_begin hlt).trans (goW_alive haf hov))]; rfl), (by rw [← hwl, ← hwl2, haf.2]), (by simp only [List.length_append, List.length_singleton]; omega), hwr2, (ok_alive hlv (by omega) rfl), rs_some haf.1 ⟨hrg2.1, hwr2⟩ hcr, hs1, rs_ws hr1 hwr2, hs2, rs_ws hr2 hwr2, hs3, rs_ws hr3 hwr2⟩) (show sc.length - (k + 1) < sc.length - k from (by omega)) (by rcases cu1 with _ | ⟨D1, u1⟩ <;> rcases cu2 with _ | ⟨D2, u2⟩ <;> rcases cu3 with _ | ⟨D3, u3⟩ <;> rfl) ⟨rfl, rfl, rfl, rfl, rfl, rfl, rfl, rfl, trivial⟩ (by rcases cu1 with _ | ⟨D1, u1⟩ <;> rcases cu2 with _ | ⟨D2, u2⟩ <;> rcases cu3 with _ | ⟨D3, u3⟩ <;> (repeat' first | exact trivial | refine ⟨rfl, ?_⟩))
        exact absurd hc18 (by decide)
      refine ccell 3 0 (.ptr 5 0 0) rfl rfl (fun M ρ v h => op_ptr h) ?_
      obtain ⟨hrel, hrng, hcr⟩ := hr0.r C t rfl
      obtain ⟨hC, hpc, htl, hx1⟩ := hs0.cur C t rfl
      have hx1 : 1 ≤ x0 := hx1
      refine r1 ?_
      refine s1 48 65 1 rfl rfl rfl rfl rfl rfl trivial ?_
      refine s1 49 73 2 rfl rfl rfl rfl rfl rfl (by first | trivial | omega) ?_
      refine s1 50 81 3 rfl rfl rfl rfl rfl rfl (by first | trivial | omega) ?_
      refine sNilP 51 89 4 rfl rfl rfl rfl rfl rfl rfl rfl ?_
      refine e1 97 rfl ?_
      refine keep [2, 9, 10, 11, 12, 13, 14, 41, 42, 43, 51] rfl ?_
      refine q1 rfl (fun hc18 => ?_) (fun hc18 => ?_)
      · skip
        exact absurd hc18 (by decide)
      try simp only [cs, ne_eq] at hc18
      refine W_skip ?_
      refine tn ?_
      have haf := rel_step hC hrel hrng hpc htl
      have hlv : Live ws.length C t ws := ⟨hC, ⟨hpc, htl, rfl⟩⟩
      have hwl2 := ws_len hlv rfl
      have hrg2 := vstep_rng hcr hrng
      refine r1 ?_
      refine s1 97 97 1 rfl rfl rfl rfl rfl rfl trivial ?_
      refine s1 98 105 2 rfl rfl rfl rfl rfl rfl (by first | trivial | omega) ?_
      refine s1 99 113 3 rfl rfl rfl rfl rfl rfl (by first | trivial | omega) ?_
      refine s1 100 121 4 rfl rfl rfl rfl rfl rfl trivial ?_
      refine c1 (one_any C w0 ws hC (rel_pc hrel hpc) (by omega) (by rw [hrel.told]; exact htl) _ rfl) [5, 6, 7, 1] [5, 6, 7, 1, 129] 101 129 5 rfl rfl rfl rfl rfl rfl rfl rfl Tryd.func23 rfl rfl rfl rfl ⟨rfl, rfl, rfl, rfl, trivial⟩ rfl rfl ?_
      refine e1 137 rfl ?_
      refine keep [2, 9, 10, 11, 12, 13, 14, 41, 42, 43] rfl ?_
      refine cval 9 (.sl 1 0 (rone C ws w0).2.length) rfl (by rw [haf.2, hwl2]) ?_
      refine r1 ?_
      refine s1 102 137 1 rfl rfl rfl rfl rfl rfl trivial ?_
      refine s1 103 145 2 rfl rfl rfl rfl rfl rfl (by first | trivial | omega) ?_
      refine s1 104 153 3 rfl rfl rfl rfl rfl rfl (by first | trivial | omega) ?_
      refine s1 105 161 4 rfl rfl rfl rfl rfl rfl trivial ?_
      refine s1 106 169 5 rfl rfl rfl rfl rfl rfl trivial ?_
      refine s1 107 177 6 rfl rfl rfl rfl rfl rfl (by first | trivial | omega) ?_
      refine e1 185 rfl ?_
      refine keep [2, 9, 10, 11, 12, 13, 14, 41, 42, 43, 107] rfl ?_
      refine q1 rfl (fun hc25 => ?_) (fun hc25 => ?_)
      · skip
        try simp only [cs, ne_eq] at hc25
        have hov := hc25
        refine cfreeze 5 3 129 (rone C ws w0).1.told.length rfl rfl rfl (Nat.le_refl _) rfl ?_
        refine rd1 rfl ?_
        refine d1 108 185 1 rfl rfl rfl rfl rfl rfl trivial ?_
        refine d1 109 193 2 rfl rfl rfl rfl rfl rfl trivial ?_
        refine d1 110 201 3 rfl rfl rfl rfl rfl rfl trivial ?_
        refine d1 111 209 4 rfl rfl rfl rfl rfl rfl trivial ?_
        refine d1 112 217 5 rfl rfl rfl rfl rfl rfl (by first | trivial | omega) ?_
        refine d1 113 225 6 rfl rfl rfl rfl rfl rfl (by first | trivial | omega) ?_
        refine dA 114 233 7 rfl rfl rfl rfl rfl rfl rfl rfl rfl (by unfold inRange; dsimp only; omega) ?_
        refine d1 115 241 8 rfl rfl rfl rfl rfl rfl trivial ?_
        refine d1 116 249 9 rfl rfl rfl rfl rfl rfl (by first | trivial | omega) ?_
        refine d1 117 257 10 rfl rfl rfl rfl rfl rfl (by first | trivial | omega) ?_
        refine d1 118 265 11 rfl rfl rfl rfl rfl rfl trivial ?_
        refine d1 119 273 12 rfl rfl rfl rfl rfl rfl trivial ?_
        refine d1 120 281 13 rfl rfl rfl rfl rfl rfl (by first | trivial | omega) ?_
        refine d1 121 289 14 rfl rfl rfl rfl rfl rfl trivial ?_
        refine d1 122 297 15 rfl rfl rfl rfl rfl rfl (by first | trivial | omega) ?_
        refine d1 123 305 16 rfl rfl rfl rfl rfl rfl (by first | trivial | omega) ?_
        refine d1 124 313 17 rfl rfl rfl rfl rfl rfl trivial ?_
        refine d1 125 321 18 rfl rfl rfl rfl rfl rfl trivial ?_
        refine d1 126 329 19 rfl rfl rfl rfl rfl rfl (by first | trivial | omega) ?_
        refine d1 127 337 20 rfl rfl rfl rfl rfl rfl trivial ?_
        refine d1 128 345 21 rfl rfl rfl rfl rfl rfl trivial ?_
        refine d1 129 353 22 rfl rfl rfl rfl rfl rfl ⟨Nat.le_refl _, trivial, (by first | (show (out.length + 1) * 64 ≤ 140737488355328; omega) | (show ((out ++ [_]).length + 1) * 64 ≤ 140737488355328; rw [List.length_append, List.length_singleton]; omega)), (by first | (simp only [maxLen]; omega) | (simp only [maxLen, List.length_append, List.length_singleton]; omega))⟩ ?_
        refine d1 12 361 23 rfl rfl rfl rfl rfl rfl trivial ?_
        refine de1 369 rfl (by kernel_rfl) ?_
        refine keep [2, 9, 10, 11, 12, 14, 41, 42, 43] rfl ?_
        refine rowsc 353 (out ++ [(Ev.mk k ((0 : Nat) : Int) (x0 - 1) true (rone C ws w0).1.e (rone C ws w0).1.told)]).length (evF (out ++ [(Ev.mk k ((0 : Nat) : Int) (x0 - 1) true (rone C ws w0).1.e (rone C ws w0).1.told)])) rfl (by simp) (fun i c hi hc => ev_cat out _ _ _ _ _ _ i c hi hc) ?_
        refine cval 12 (.sl 353 0 (out ++ [(Ev.mk k ((0 : Nat) : Int) (x0 - 1) true (rone C ws w0).1.e (rone C ws w0).1.told)]).length) rfl (by simp) ?_
        refine r0 ?_
        refine s1 130 369 1 rfl rfl rfl rfl rfl rfl trivial ?_
        refine s1 131 377 2 rfl rfl rfl rfl rfl rfl (by first | trivial | omega) ?_
        refine s0 385 3 rfl rfl rfl rfl rfl (by first | trivial | omega) ?_
        refine e1 393 rfl ?_
        refine bn ?_
        refine tn ?_
        refine ccell 3 0 (.op 5 false) rfl rfl (fun M ρ v h => nil_op (show VR M ρ (.d (.val (.pointer none))) v from h)) ?_
        have hwr2 : ∀ i, inRange ((rone C ws w0).2.getD i 0) := fun i => by rw [haf.2]; exact hrg2.2 i
        refine r0 ?_
        refine sA 132 393 1 rfl rfl rfl rfl rfl rfl rfl rfl rfl (by unfold inRange; omega) ?_
        refine s1 43 401 2 rfl rfl rfl rfl rfl rfl trivial ?_
        refine e1 409 rfl ?_
        refine tn ?_
        exact again (((k + 1, (rone C ws w0).2, (out ++ [(Ev.mk k ((0 : Nat) : Int) (x0 - 1) true (rone C ws w0).1.e (rone C ws w0).1.told)]), ⟨x0, none⟩, ⟨x1, cu1⟩, ⟨x2, cu2⟩, ⟨x3, cu3⟩, w0, w1, w2, w3) : Nat × (List Int) × (List Ev) × TS × TS × TS × TS × Wkr × Wkr × Wkr × Wkr)) [0, 1, 353, 3, 4, 5, 6, 7, 8, 9, 10, 11, 12, 13, 14, 15, 16] (show (k + 1) ≤ sc.length ∧ prun q (sc.drop (k + 1)) (k + 1) ⟨((rone C ws w0).2), ((out ++ [(Ev.mk k ((0 : Nat) : Int) (x0 - 1) true (rone C ws w0).1.e (rone C ws w0).1.told)])), ([(⟨x0, none⟩), (⟨x1, cu1⟩), (⟨x2, cu2⟩), (⟨x3, cu3⟩)] : List TS).take q.ts.length⟩ = prun q sc 0 (pinit q) ∧ ((rone C ws w0).2).length = q.ws.length ∧ ((out ++ [(Ev.mk k ((0 : Nat) : Int) (x0 - 1) true (rone C ws w0).1.e (rone C ws w0).1.told)])).length ≤ 2 * (k + 1) ∧ (∀ i, inRange (((rone C ws w0).2).getD i 0)) ∧ TSok q 0 (⟨x0, none⟩) ∧ RSok ((rone C ws w0).2) (⟨x0, none⟩) (w0) ∧ TSok q 1 (⟨x1, cu1⟩) ∧ RSok ((rone C ws w0).2) (⟨x1, cu1⟩) (w1) ∧ TSok q 2 (⟨x2, cu2⟩) ∧ RSok ((rone C ws w0).2) (⟨x2, cu2⟩) (w2) ∧ TSok q 3 (⟨x3, cu3⟩) ∧ RSok ((rone C ws w0).2) (⟨x3, cu3⟩) (w3) from ⟨by omega, (by rw [← hrun, prun_at (k := k) (by omega), hv, Int.toNat_natCast, pstep_tk (by omega) (pb_go.trans (goW_over haf hov))]; rfl), (by rw [← hwl, ← hwl2, haf.2]), (by simp only [List.length_append, List.length_singleton]; omega), hwr2, (ok_over (by omega)), rs_none, hs1, rs_ws hr1 hwr2, hs2, rs_ws hr2 hwr2, hs3, rs_ws hr3 hwr2⟩) (show sc.length - (k + 1) < sc.length - k from (by omega)) (by rcases cu1 with _ | ⟨D1, u1⟩ <;> rcases cu2 with _ | ⟨D2, u2⟩ <;> rcases cu3 with _ | ⟨D3, u3⟩ <;> rfl) ⟨rfl, rfl, rfl, rfl, rfl, rfl, rfl, rfl, trivial⟩ (by rcases cu1 with _ | ⟨D1, u1⟩ <;> rcases cu2 with _ | ⟨D2, u2⟩ <;> rcases cu3 with _ | ⟨D3, u3⟩ <;> (repeat' first | exact trivial | refine ⟨rfl, ?_⟩))
      try simp only [cs, ne_eq] at hc25
      refine W_skip ?_
      refine bn ?_
      refine tn ?_
      have hov := hc25
      refine ccell 3 0 (.op 5 true) rfl rfl (fun M ρ v h => ptr_op h) ?_
      have hwr2 : ∀ i, inRange ((rone C ws w0).2.getD i 0) := fun i => by rw [haf.2]; exact hrg2.2 i
      refine r0 ?_
      refine sA 132 185 1 rfl rfl rfl rfl rfl rfl rfl rfl rfl (by unfold inRange; omega) ?_
      refine s1 43 193 2 rfl rfl rfl rfl rfl rfl trivial ?_
      refine e1 201 rfl ?_
      refine tn ?_
      exact again (((k + 1, (rone C ws w0).2, out, ⟨x0, some (C, (vstep C ws t).1)⟩, ⟨x1, cu1⟩, ⟨x2, cu2⟩, ⟨x3, cu3⟩, (rone C ws w0).1, w1, w2, w3) : Nat × (List Int) × (List Ev) × TS × TS × TS × TS × Wkr × Wkr × Wkr × Wkr)) [0, 1, 2, 3, 4, 5, 6, 129, 8, 9, 10, 11, 12, 13, 14, 15, 16] (show (k + 1) ≤ sc.length ∧ prun q (sc.drop (k + 1)) (k + 1) ⟨((rone C ws w0).2), (out), ([(⟨x0, some (C, (vstep C ws t).1)⟩), (⟨x1, cu1⟩), (⟨x2, cu2⟩), (⟨x3, cu3⟩)] : List TS).take q.ts.length⟩ = prun q sc 0 (pinit q) ∧ ((rone C ws w0).2).length = q.ws.length ∧ (out).length ≤ 2 * (k + 1) ∧ (∀ i, inRange (((rone C ws w0).2).getD i 0)) ∧ TSok q 0 (⟨x0, some (C, (vstep C ws t).1)⟩) ∧ RSok ((rone C ws w0).2) (⟨x0, some (C, (vstep C ws t).1)⟩) ((rone C ws w0).1) ∧ TSok q 1 (⟨x1, cu1⟩) ∧ RSok ((rone C ws w0).2) (⟨x1, cu1⟩) (w1) ∧ TSok q 2 (⟨x2, cu2⟩) ∧ RSok ((rone C ws w0).2) (⟨x2, cu2⟩) (w2) ∧ TSok q 3 (⟨x3, cu3⟩) ∧ RSok ((rone C ws w0).2) (⟨x3, cu3⟩) (w3) from ⟨by omega, (by rw [← hrun, prun_at (k := k) (by omega), hv, Int.toNat_natCast, pstep_tk (by omega) (pb_go.trans (goW_alive haf hov))]; rfl), (by rw [← hwl, ← hwl2, haf.2]), (by omega), hwr2, (ok_alive hlv (by omega) rfl), rs_some haf.1 ⟨hrg2.1, hwr2⟩ hcr, hs1, rs_ws hr1 hwr2, hs2, rs_ws hr2 hwr2, hs3, rs_ws hr3 hwr2⟩) (show sc.length - (k + 1) < sc.length - k from (by omega)) (by rcases cu1 with _ | ⟨D1, u1⟩ <;> rcases cu2 with _ | ⟨D2, u2⟩ <;> rcases cu3 with _ | ⟨D3, u3⟩ <;> rfl) ⟨rfl, rfl, rfl, rfl, rfl, rfl, rfl, rfl, trivial⟩ (by rcases cu1 with _ | ⟨D1, u1⟩ <;> rcases cu2 with _ | ⟨D2, u2⟩ <;> rcases cu3 with _ | ⟨D3, u3⟩ <;> (repeat' first | exact trivial | refine ⟨rfl, ?_⟩))
    · skip
      refine cval 14 (SV.i ((1 : Nat) : Int)) rfl (by rw [hv]) ?_
      have hx20 : 0 ≤ x1 ∧ x1 ≤ ((q.ts.getD 1 []).length : Int) := hs1.nx
      rcases cu1 with _ | ⟨C, t⟩
      · skip
        refine ccell 3 1 (.d (.val (.pointer none))) rfl rfl (fun M ρ v h => op_nil h) ?_
        refine r1 ?_
        refine s1 48 65 1 rfl rfl rfl rfl rfl rfl trivial ?_
        refine s1 49 73 2 rfl rfl rfl rfl rfl rfl (by first | trivial | omega) ?_
        refine s1 50 81 3 rfl rfl rfl rfl rfl rfl (by first | trivial | omega) ?_
        refine sNilP 51 89 4 rfl rfl rfl rfl rfl rfl rfl rfl ?_
        refine e1 97 rfl ?_
        refine keep [2, 9, 10, 11, 12, 13, 14, 41, 42, 43, 51] rfl ?_
        refine q1 rfl (fun hc18 => ?_) (fun hc18 => ?_)
        · skip
          try simp only [cs, ne_eq] at hc18
          refine W_seq ?_
          refine rd1 rfl ?_
          refine d1 52 97 1 rfl rfl rfl rfl rfl rfl trivial ?_
          refine d1 53 105 2 rfl rfl rfl rfl rfl rfl (by first | trivial | omega) ?_
          refine d1 54 113 3 rfl rfl rfl rfl rfl rfl (by first | trivial | omega) ?_
          refine d1 55 121 4 rfl rfl rfl rfl rfl rfl trivial ?_
          refine d1 56 129 5 rfl rfl rfl rfl rfl rfl (by first | trivial | omega) ?_
          refine d1 57 137 6 rfl rfl rfl rfl rfl rfl trivial ?_
          refine d1 58 145 7 rfl rfl rfl rfl rfl rfl (by omega) ?_
          refine d1 59 153 8 rfl rfl rfl rfl rfl rfl (by first | trivial | omega) ?_
          refine d1 60 161 9 rfl rfl rfl rfl rfl rfl (by first | trivial | omega) ?_
          refine d1 61 169 10 rfl rfl rfl rfl rfl rfl (by first | trivial | omega) ?_
          refine de1 177 rfl (by kernel_rfl) ?_
          refine keep [2, 9, 10, 11, 12, 13, 14, 41, 42, 43, 61] rfl ?_
          refine q1 rfl (fun hc19 => ?_) (fun hc19 => ?_)
          · skip
            try simp only [cs, ne_eq] at hc19
            simp only [Int.toNat_natCast] at hc19
            have hlt : ¬ x1 < (q.ts.getD 1 []).length := (by omega)
            refine W_exit ?_
            refine tx ?_
            refine tx ?_
            refine bx ?_
            refine tn ?_
            refine ccell 3 1 (.op 8 false) rfl rfl (fun M ρ v h => nil_op (show VR M ρ (.d (.val (.pointer none))) v from h)) ?_
            refine r0 ?_
            refine sA 132 177 1 rfl rfl rfl rfl rfl rfl rfl rfl rfl (by unfold inRange; omega) ?_
            refine s1 43 185 2 rfl rfl rfl rfl rfl rfl trivial ?_
            refine e1 193 rfl ?_
            refine tn ?_
            exact again (((k + 1, ws, out, ⟨x0, cu0⟩, ⟨x1, none⟩, ⟨x2, cu2⟩, ⟨x3, cu3⟩, w0, w1, w2, w3) : Nat × (List Int) × (List Ev) × TS × TS × TS × TS × Wkr × Wkr × Wkr × Wkr)) [0, 1, 2, 3, 4, 5, 6, 7, 8, 9, 10, 11, 12, 13, 14, 15, 16] (show (k + 1) ≤ sc.length ∧ prun q (sc.drop (k + 1)) (k + 1) ⟨(ws), (out), ([(⟨x0, cu0⟩), (⟨x1, none⟩), (⟨x2, cu2⟩), (⟨x3, cu3⟩)] : List TS).take q.ts.length⟩ = prun q sc 0 (pinit q) ∧ (ws).length = q.ws.length ∧ (out).length ≤ 2 * (k + 1) ∧ (∀ i, inRange ((ws).getD i 0)) ∧ TSok q 0 (⟨x0, cu0⟩) ∧ RSok (ws) (⟨x0, cu0⟩) (w0) ∧ TSok q 1 (⟨x1, none⟩) ∧ RSok (ws) (⟨x1, none⟩) (w1) ∧ TSok q 2 (⟨x2, cu2⟩) ∧ RSok (ws) (⟨x2, cu2⟩) (w2) ∧ TSok q 3 (⟨x3, cu3⟩) ∧ RSok (ws) (⟨x3, cu3⟩) (w3) from ⟨by omega, (by rw [← hrun, prun_at (k := k) (by omega), hv, Int.toNat_natCast, pstep_tk (by omega) (pb_idle hlt)]; rfl), hwl, (by omega), hwr, hs0, hr0, hs1, hr1, hs2, hr2, hs3, hr3⟩) (show sc.length - (k + 1) < sc.length - k from (by omega)) (by rcases cu0 with _ | ⟨D0, u0⟩ <;> rcases cu2 with _ | ⟨D2, u2⟩ <;> rcases cu3 with _ | ⟨D3, u3⟩ <;> rfl) ⟨rfl, rfl, rfl, rfl, rfl, rfl, rfl, rfl, trivial⟩ (by rcases cu0 with _ | ⟨D0, u0⟩ <;> rcases cu2 with _ | ⟨D2, u2⟩ <;> rcases cu3 with _ | ⟨D3, u3⟩ <;> (repeat' first | exact trivial | refine ⟨rfl, ?_⟩))
          try simp only [cs, ne_eq] at hc19
          simp only [Int.toNat_natCast] at hc19
          have hlt : x1 < (q.ts.getD 1 []).length := (by omega)
          obtain ⟨hcc1, hcc2, hcc3, hcode⟩ := hcl 1 (by omega) x1 hx20.1 hlt
          have hc12 : 0 ≤ ((q.ts.getD 1 []).getD x1.toNat default).code ∧ ((q.ts.getD 1 []).getD x1.toNat default).code < q.cs.length := ⟨hcc1, hcc2⟩
          refine W_skip ?_
          refine tn ?_
          refine rd1 rfl ?_
          refine d1 62 177 1 rfl rfl rfl rfl rfl rfl trivial ?_
          refine d1 63 185 2 rfl rfl rfl rfl rfl rfl (by first | trivial | omega) ?_
          refine d1 64 193 3 rfl rfl rfl rfl rfl rfl trivial ?_
          refine d1 65 201 4 rfl rfl rfl rfl rfl rfl (by omega) ?_
          refine d1 66 209 5 rfl rfl rfl rfl rfl rfl (by first | trivial | omega) ?_
          refine d1 67 217 6 rfl rfl rfl rfl rfl rfl trivial ?_
          refine d1 68 225 7 rfl rfl rfl rfl rfl rfl (by first | trivial | omega) ?_
          refine d1 69 233 8 rfl rfl rfl rfl rfl rfl (by first | trivial | omega) ?_
          refine d1 70 241 9 rfl rfl rfl rfl rfl rfl (by first | trivial | omega | (simp only [Int.toNat_natCast]; omega)) ?_
          refine d1 71 249 10 rfl rfl rfl rfl rfl rfl (by first | trivial | omega | (simp only [Int.toNat_natCast]; omega)) ?_
          refine d1 15 257 11 rfl rfl rfl rfl rfl rfl trivial ?_
          refine d0 265 12 rfl rfl rfl rfl rfl (by first | trivial | omega) ?_
          refine de1 273 rfl (by kernel_rfl) ?_
          refine keep [2, 9, 10, 11, 12, 13, 14, 15, 41, 42, 43] rfl ?_
          refine rd1 rfl ?_
          refine d1 72 273 1 rfl rfl rfl rfl rfl rfl trivial ?_
          refine d1 73 281 2 rfl rfl rfl rfl rfl rfl trivial ?_
          refine d1 74 289 3 rfl rfl rfl rfl rfl rfl (by first | trivial | omega) ?_
          refine d1 75 297 4 rfl rfl rfl rfl rfl rfl trivial ?_
          refine d1 76 305 5 rfl rfl rfl rfl rfl rfl (by first | trivial | omega) ?_
          refine d1 77 313 6 rfl rfl rfl rfl rfl rfl (by first | trivial | omega | (simp only [Int.toNat_natCast]; omega)) ?_
          refine d1 78 321 7 rfl rfl rfl rfl rfl rfl (by first | trivial | omega | (simp only [Int.toNat_natCast]; omega)) ?_
          refine d1 79 329 8 rfl rfl rfl rfl rfl rfl trivial ?_
          refine d1 80 337 9 rfl rfl rfl rfl rfl rfl (by first | trivial | omega) ?_
          refine dc1 (worker_any (codeOf q 1 x1) (callAt q 1 x1).args (by omega)) [] [345, 346] 81 345 10 rfl rfl rfl rfl rfl rfl rfl rfl Tryd.func22 rfl rfl rfl rfl trivial rfl rfl ?_
          refine d1 82 353 11 rfl rfl rfl rfl rfl rfl (by first | trivial | omega) ?_
          refine d0 361 12 rfl rfl rfl rfl rfl (by first | trivial | omega) ?_
          refine de1 369 rfl (by kernel_rfl) ?_
          refine keep [2, 9, 10, 11, 12, 13, 14, 41, 42, 43] rfl ?_
          refine r1 ?_
          refine s1 83 369 1 rfl rfl rfl rfl rfl rfl trivial ?_
          refine s1 84 377 2 rfl rfl rfl rfl rfl rfl trivial ?_
          refine s1 85 385 3 rfl rfl rfl rfl rfl rfl trivial ?_
          refine s1 86 393 4 rfl rfl rfl rfl rfl rfl trivial ?_
          refine s1 87 401 5 rfl rfl rfl rfl rfl rfl (by first | trivial | omega) ?_
          refine s1 88 409 6 rfl rfl rfl rfl rfl rfl (by first | trivial | omega) ?_
          refine s1 89 417 7 rfl rfl rfl rfl rfl rfl trivial ?_
          refine s1 90 425 8 rfl rfl rfl rfl rfl rfl trivial ?_
          refine s1 91 433 9 rfl rfl rfl rfl rfl rfl ⟨Nat.le_refl _, trivial, (by show (out.length + 1) * 64 ≤ 140737488355328; omega), (by simp only [maxLen]; omega)⟩ ?_
          refine s1 12 441 10 rfl rfl rfl rfl rfl rfl trivial ?_
          refine e1 449 rfl ?_
          refine keep [2, 9, 10, 11, 12, 13, 14, 41, 42, 43] rfl ?_
          refine r0 ?_
          refine s1 92 449 1 rfl rfl rfl rfl rfl rfl trivial ?_
          refine s1 93 457 2 rfl rfl rfl rfl rfl rfl (by first | trivial | omega) ?_
          refine s1 94 465 3 rfl rfl rfl rfl rfl rfl (by first | trivial | omega) ?_
          refine sA 95 473 4 rfl rfl rfl rfl rfl rfl rfl rfl rfl (by unfold inRange; dsimp only; omega) ?_
          refine s1 96 481 5 rfl rfl rfl rfl rfl rfl (by first | trivial | omega) ?_
          refine s0 489 6 rfl rfl rfl rfl rfl (by first | trivial | omega) ?_
          refine e1 497 rfl ?_
          refine tn ?_
          refine cghostly 345 3 3 1 (intsF []) rfl rfl rfl ?_
          refine rowsw 433 (out ++ [(Ev.mk k ((1 : Nat) : Int) x1 false 0 [])]).length (evF (out ++ [(Ev.mk k ((1 : Nat) : Int) x1 false 0 [])])) rfl (by simp) (fun i c hi hc M v h => ev_cat0 out _ _ _ i c hi hc M v h) ?_
          refine cval 12 (.sl 433 0 (out ++ [(Ev.mk k ((1 : Nat) : Int) x1 false 0 [])]).length) rfl (by simp) ?_
          have hrel := new_rel (codeOf q 1 x1) (callAt q 1 x1).args
          have hrng : Rng ((vnew (codeOf q 1 x1) (callAt q 1 x1).args), ws) := new_rng (hmr.args 1 x1) hwr
          have hcr : CRng (codeOf q 1 x1) := hmr.cs _
          have hC := hcode
          have hvn := vnew_ok (C := (codeOf q 1 x1)) (l := (callAt q 1 x1).args) (ws := ws)
          have hpc := hvn.pc
          have htl := hvn.told
          have haf := rel_step hC hrel hrng hpc htl
          have hlv : Live ws.length (codeOf q 1 x1) (vnew (codeOf q 1 x1) (callAt q 1 x1).args) ws := ⟨hC, ⟨hpc, htl, rfl⟩⟩
          have hwl2 := ws_len hlv rfl
          have hrg2 := vstep_rng hcr hrng
          refine r1 ?_
          refine s1 97 505 1 rfl rfl rfl rfl rfl rfl trivial ?_
          refine s1 98 513 2 rfl rfl rfl rfl rfl rfl (by first | trivial | omega) ?_
          refine s1 99 521 3 rfl rfl rfl rfl rfl rfl (by first | trivial | omega) ?_
          refine s1 100 529 4 rfl rfl rfl rfl rfl rfl trivial ?_
          refine c1 (one_any (codeOf q 1 x1) (wnew (codeOf q 1 x1) (callAt q 1 x1).args) ws hC (rel_pc hrel hpc) (by omega) (by rw [hrel.told]; exact htl) _ rfl) [345, 346, 497, 1] [345, 346, 497, 1, 537] 101 537 5 rfl rfl rfl rfl rfl rfl rfl rfl Tryd.func23 rfl rfl rfl rfl ⟨rfl, rfl, rfl, rfl, trivial⟩ rfl rfl ?_
          refine e1 545 rfl ?_
          refine keep [2, 9, 10, 11, 12, 13, 14, 41, 42, 43] rfl ?_
          refine cval 9 (.sl 1 0 (rone (codeOf q 1 x1) ws (wnew (codeOf q 1 x1) (callAt q 1 x1).args)).2.length) rfl (by rw [haf.2, hwl2]) ?_
          refine r1 ?_
          refine s1 102 545 1 rfl rfl rfl rfl rfl rfl trivial ?_
          refine s1 103 553 2 rfl rfl rfl rfl rfl rfl (by first | trivial | omega) ?_
          refine s1 104 561 3 rfl rfl rfl rfl rfl rfl (by first | trivial | omega) ?_
          refine s1 105 569 4 rfl rfl rfl rfl rfl rfl trivial ?_
          refine s1 106 577 5 rfl rfl rfl rfl rfl rfl trivial ?_
          refine s1 107 585 6 rfl rfl rfl rfl rfl rfl (by first | trivial | omega) ?_
          refine e1 593 rfl ?_
          refine keep [2, 9, 10, 11, 12, 13, 14, 41, 42, 43, 107] rfl ?_
          refine q1 rfl (fun hc25 => ?_) (fun hc25 => ?_)
          · skip
            try simp only [cs, ne_eq] at hc25
            have hov := hc25
            refine cfreeze 345 3 537 (rone (codeOf q 1 x1) ws (wnew (codeOf q 1 x1) (callAt q 1 x1).args)).1.told.length rfl rfl rfl (Nat.le_refl _) rfl ?_
            refine rd1 rfl ?_
            refine d1 108 593 1 rfl rfl rfl rfl rfl rfl trivial ?_
            refine d1 109 601 2 rfl rfl rfl rfl rfl rfl trivial ?_
            refine d1 110 609 3 rfl rfl rfl rfl rfl rfl trivial ?_
            refine d1 111 617 4 rfl rfl rfl rfl rfl rfl trivial ?_
            refine d1 112 625 5 rfl rfl rfl rfl rfl rfl (by first | trivial | omega) ?_
            refine d1 113 633 6 rfl rfl rfl rfl rfl rfl (by first | trivial | omega) ?_
            refine dA 114 641 7 rfl rfl rfl rfl rfl rfl rfl rfl rfl (by unfold inRange; dsimp only; omega) ?_
            refine d1 115 649 8 rfl rfl rfl rfl rfl rfl trivial ?_
            refine d1 116 657 9 rfl rfl rfl rfl rfl rfl (by first | trivial | omega) ?_
            refine d1 117 665 10 rfl rfl rfl rfl rfl rfl (by first | trivial | omega) ?_
            refine d1 118 673 11 rfl rfl rfl rfl rfl rfl trivial ?_
            refine d1 119 681 12 rfl rfl rfl rfl rfl rfl trivial ?_
            refine d1 120 689 13 rfl rfl rfl rfl rfl rfl (by first | trivial | omega) ?_
            refine d1 121 697 14 rfl rfl rfl rfl rfl rfl trivial ?_
            refine d1 122 705 15 rfl rfl rfl rfl rfl rfl (by first | trivial | omega) ?_
            refine d1 123 713 16 rfl rfl rfl rfl rfl rfl (by first | trivial | omega) ?_
            refine d1 124 721 17 rfl rfl rfl rfl rfl rfl trivial ?_
            refine d1 125 729 18 rfl rfl rfl rfl rfl rfl trivial ?_
            refine d1 126 737 19 rfl rfl rfl rfl rfl rfl (by first | trivial | omega) ?_
            refine d1 127 745 20 rfl rfl rfl rfl rfl rfl trivial ?_
            refine d1 128 753 21 rfl rfl rfl rfl rfl rfl trivial ?_
            refine d1 129 761 22 rfl rfl rfl rfl rfl rfl ⟨Nat.le_refl _, trivial, (by first | (show (out.length + 1) * 64 ≤ 140737488355328; omega) | (show ((out ++ [_]).length + 1) * 64 ≤ 140737488355328; rw [List.length_append, List.length_singleton]; omega)), (by first | (simp only [maxLen]; omega) | (simp only [maxLen, List.length_append, List.length_singleton]; omega))⟩ ?_
            refine d1 12 769 23 rfl rfl rfl rfl rfl rfl trivial ?_
            refine de1 777 rfl (by kernel_rfl) ?_
            refine keep [2, 9, 10, 11, 12, 14, 41, 42, 43] rfl ?_
            refine rowsc 761 ((out ++ [(Ev.mk k ((1 : Nat) : Int) x1 false 0 [])]) ++ [(Ev.mk k ((1 : Nat) : Int) ((x1 + 1) - 1) true (rone (codeOf q 1 x1) ws (wnew (codeOf q 1 x1) (callAt q 1 x1).args)).1.e (rone (codeOf q 1 x1) ws (wnew (codeOf q 1 x1) (callAt q 1 x1).args)).1.told)]).length (evF ((out ++ [(Ev.mk k ((1 : Nat) : Int) x1 false 0 [])]) ++ [(Ev.mk k ((1 : Nat) : Int) ((x1 + 1) - 1) true (rone (codeOf q 1 x1) ws (wnew (codeOf q 1 x1) (callAt q 1 x1).args)).1.e (rone (codeOf q 1 x1) ws (wnew (codeOf q 1 x1) (callAt q 1 x1).args)).1.told)])) rfl (by simp) (fun i c hi hc => ev_cat (out ++ [(Ev.mk k ((1 : Nat) : Int) x1 false 0 [])]) _ _ _ _ _ _ i c hi hc) ?_
            refine cval 12 (.sl 761 0 ((out ++ [(Ev.mk k ((1 : Nat) : Int) x1 false 0 [])]) ++ [(Ev.mk k ((1 : Nat) : Int) ((x1 + 1) - 1) true (rone (codeOf q 1 x1) ws (wnew (codeOf q 1 x1) (callAt q 1 x1).args)).1.e (rone (codeOf q 1 x1) ws (wnew (codeOf q 1 x1) (callAt q 1 x1).args)).1.told)]).length) rfl (by simp) ?_
            refine r0 ?_
            refine s1 130 777 1 rfl rfl rfl rfl rfl rfl trivial ?_
            refine s1 131 785 2 rfl rfl rfl rfl rfl rfl (by first | trivial | omega) ?_
            refine s0 793 3 rfl rfl rfl rfl rfl (by first | trivial | omega) ?_
            refine e1 801 rfl ?_
            refine bn ?_
            refine tn ?_
            refine ccell 3 1 (.op 8 false) rfl rfl (fun M ρ v h => nil_op (show VR M ρ (.d (.val (.pointer none))) v from h)) ?_
            have hwr2 : ∀ i, inRange ((rone (codeOf q 1 x1) ws (wnew (codeOf q 1 x1) (callAt q 1 x1).args)).2.getD i 0) := fun i => by rw [haf.2]; exact hrg2.2 i
            refine r0 ?_
            refine sA 132 801 1 rfl rfl rfl rfl rfl rfl rfl rfl rfl (by unfold inRange; omega) ?_
            refine s1 43 809 2 rfl rfl rfl rfl rfl rfl trivial ?_
            refine e1 817 rfl ?_
            refine tn ?_
            exact again (((k + 1, (rone (codeOf q 1 x1) ws (wnew (codeOf q 1 x1) (callAt q 1 x1).args)).2, ((out ++ [(Ev.mk k ((1 : Nat) : Int) x1 false 0 [])]) ++ [(Ev.mk k ((1 : Nat) : Int) ((x1 + 1) - 1) true (rone (codeOf q 1 x1) ws (wnew (codeOf q 1 x1) (callAt q 1 x1).args)).1.e (rone (codeOf q 1 x1) ws (wnew (codeOf q 1 x1) (callAt q 1 x1).args)).1.told)]), ⟨x0, cu0⟩, ⟨(x1 + 1), none⟩, ⟨x2, cu2⟩, ⟨x3, cu3⟩, w0, w1, w2, w3) : Nat × (List Int) × (List Ev) × TS × TS × TS × TS × Wkr × Wkr × Wkr × Wkr)) [0, 1, 761, 3, 4, 5, 6, 7, 8, 9, 10, 11, 12, 13, 14, 15, 16] (show (k + 1) ≤ sc.length ∧ prun q (sc.drop (k + 1)) (k + 1) ⟨((rone (codeOf q 1 x1) ws (wnew (codeOf q 1 x1) (callAt q 1 x1).args)).2), (((out ++ [(Ev.mk k ((1 : Nat) : Int) x1 false 0 [])]) ++ [(Ev.mk k ((1 : Nat) : Int) ((x1 + 1) - 1) true (rone (codeOf q 1 x1) ws (wnew (codeOf q 1 x1) (callAt q 1 x1).args)).1.e (rone (codeOf q 1 x1) ws (wnew (codeOf q 1 x1) (callAt q 1 x1).args)).1.told)])), ([(⟨x0, cu0⟩), (⟨(x1 + 1), none⟩), (⟨x2, cu2⟩), (⟨x3, cu3⟩)] : List TS).take q.ts.length⟩ = prun q sc 0 (pinit q) ∧ ((rone (codeOf q 1 x1) ws (wnew (codeOf q 1 x1) (callAt q 1 x1).args)).2).length = q.ws.length ∧ (((out ++ [(Ev.mk k ((1 : Nat) : Int) x1 false 0 [])]) ++ [(Ev.mk k ((1 : Nat) : Int) ((x1 + 1) - 1) true (rone (codeOf q 1 x1) ws (wnew (codeOf q 1 x1) (callAt q 1 x1).args)).1.e (rone (codeOf q 1 x1) ws (wnew (codeOf q 1 x1) (callAt q 1 x1).args)).1.told)])).length ≤ 2 * (k + 1) ∧ (∀ i, inRange (((rone (codeOf q 1 x1) ws (wnew (codeOf q 1 x1) (callAt q 1 x1).args)).2).getD i 0)) ∧ TSok q 0 (⟨x0, cu0⟩) ∧ RSok ((rone (codeOf q 1 x1) ws (wnew (codeOf q 1 x1) (callAt q 1 x1).args)).2) (⟨x0, cu0⟩) (w0) ∧ TSok q 1 (⟨(x1 + 1), none⟩) ∧ RSok ((rone (codeOf q 1 x1) ws (wnew (codeOf q 1 x1) (callAt q 1 x1).args)).2) (⟨(x1 + 1), none⟩) (w1) ∧ TSok q 2 (⟨x2, cu2⟩) ∧ RSok ((rone (codeOf q 1 x1) ws (wnew (codeOf q 1 x1) (callAt q 1 x1).args)).2) (⟨x2, cu2⟩) (w2) ∧ TSok q 3 (⟨x3, cu3⟩) ∧ RSok ((rone (codeOf q 1 x1) ws (wnew (codeOf q 1 x1) (callAt q 1 x1).args)).2) (⟨x3, cu3⟩) (w3) from ⟨by omega, (by rw [← hrun, prun_at (k := k) (by omega), hv, Int.toNat_natCast, pstep_tk (by omega) ((pb_begin hlt).trans (goW_over haf hov))]; rfl), (by rw [← hwl, ← hwl2, haf.2]), (by simp only [List.length_append, List.length_singleton]; omega), hwr2, hs0, rs_ws hr0 hwr2, (ok_over (by omega)), rs_none, hs2, rs_ws hr2 hwr2, hs3, rs_ws hr3 hwr2⟩) (show sc.length - (k + 1) < sc.length - k from (by omega)) (by rcases cu0 with _ | ⟨D0, u0⟩ <;> rcases cu2 with _ | ⟨D2, u2⟩ <;> rcases cu3 with _ | ⟨D3, u3⟩ <;> rfl) ⟨rfl, rfl, rfl, rfl, rfl, rfl, rfl, rfl, trivial⟩ (by rcases cu0 with _ | ⟨D0, u0⟩ <;> rcases cu2 with _ | ⟨D2, u2⟩ <;> rcases cu3 with _ | ⟨D3, u3⟩ <;> (repeat' first | exact trivial | refine ⟨rfl, ?_⟩))
          try simp only [cs, ne_eq] at hc25
          refine W_skip ?_
          refine bn ?_
          refine tn ?_
          have hov := hc25
          refine ccell 3 1 (.op 345 true) rfl rfl (fun M ρ v h => ptr_op h) ?_
          have hwr2 : ∀ i, inRange ((rone (codeOf q 1 x1) ws (wnew (codeOf q 1 x1) (callAt q 1 x1).args)).2.getD i 0) := fun i => by rw [haf.2]; exact hrg2.2 i
          refine r0 ?_
          refine sA 132 593 1 rfl rfl rfl rfl rfl rfl rfl rfl rfl (by unfold inRange; omega) ?_
          refine s1 43 601 2 rfl rfl rfl rfl rfl rfl trivial ?_
          refine e1 609 rfl ?_
          refine tn ?_
          exact again (((k + 1, (rone (codeOf q 1 x1) ws (wnew (codeOf q 1 x1) (callAt q 1 x1).args)).2, (out ++ [(Ev.mk k ((1 : Nat) : Int) x1 false 0 [])]), ⟨x0, cu0⟩, ⟨(x1 + 1), some ((codeOf q 1 x1), (vstep (codeOf q 1 x1) ws (vnew (codeOf q 1 x1) (callAt q 1 x1).args)).1)⟩, ⟨x2, cu2⟩, ⟨x3, cu3⟩, w0, (rone (codeOf q 1 x1) ws (wnew (codeOf q 1 x1) (callAt q 1 x1).args)).1, w2, w3) : Nat × (List Int) × (List Ev) × TS × TS × TS × TS × Wkr × Wkr × Wkr × Wkr)) [0, 1, 433, 3, 4, 5, 6, 7, 345, 346, 537, 11, 12, 13, 14, 15, 16] (show (k + 1) ≤ sc.length ∧ prun q (sc.drop (k + 1)) (k + 1) ⟨((rone (codeOf q 1 x1) ws (wnew (codeOf q 1 x1) (callAt q 1 x1).args)).2), ((out ++ [(Ev.mk k ((1 : Nat) : Int) x1 false 0 [])])), ([(⟨x0, cu0⟩), (⟨(x1 + 1), some ((codeOf q 1 x1), (vstep (codeOf q 1 x1) ws (vnew (codeOf q 1 x1) (callAt q 1 x1).args)).1)⟩), (⟨x2, cu2⟩), (⟨x3, cu3⟩)] : List TS).take q.ts.length⟩ = prun q sc 0 (pinit q) ∧ ((rone (codeOf q 1 x1) ws (wnew (codeOf q 1 x1) (callAt q 1 x1).args)).2).length = q.ws.length ∧ ((out ++ [(Ev.mk k ((1 : Nat) : Int) x1 false 0 [])])).length ≤ 2 * (k + 1) ∧ (∀ i, inRange (((rone (codeOf q 1 x1) ws (wnew (codeOf q 1 x1) (callAt q 1 x1).args)).2).getD i 0)) ∧ TSok q 0 (⟨x0, cu0⟩) ∧ RSok ((rone (codeOf q 1 x1) ws (wnew (codeOf q 1 x1) (callAt q 1 x1).args)).2) (⟨x0, cu0⟩) (w0) ∧ TSok q 1 (⟨(x1 + 1), some ((codeOf q 1 x1), (vstep (codeOf q 1 x1) ws (vnew (codeOf q 1 x1) (callAt q 1 x1).args)).1)⟩) ∧ RSok ((rone (codeOf q 1 x1) ws (wnew (codeOf q 1 x1) (callAt q 1 x1).args)).2) (⟨(x1 + 1), some ((codeOf q 1 x1), (vstep (codeOf q 1 x1) ws (vnew (codeOf q 1 x1) (callAt q 1 x1).args)).1)⟩) ((rone (codeOf q 1 x1) ws (wnew (codeOf q 1 x1) (callAt q 1 x1).args)).1) ∧ TSok q 2 (⟨x2, cu2⟩) ∧ RSok ((rone (codeOf q 1 x1) ws (wnew (codeOf q 1 x1) (callAt q 1 x1).args)).2) (⟨x2, cu2⟩) (w2) ∧ TSok q 3 (⟨x3, cu3⟩) ∧ RSok ((rone (codeOf q 1 x1) ws (wnew (codeOf q 1 x1) (callAt q 1 x1).args)).2) (⟨x3, cu3⟩) (w3) from ⟨by omega, (by rw [← hrun, prun_at (k := k) (by omega), hv, Int.toNat_natCast, pstep_tk (by omega) ((pb_begin hlt).trans (goW_alive haf hov))]; rfl), (by rw [← hwl, ← hwl2, haf.2]), (by simp only [List.length_append, List.length_singleton]; omega), hwr2, hs0, rs_ws hr0 hwr2, (ok_alive hlv (by omega) rfl), rs_some haf.1 ⟨hrg2.1, hwr2⟩ hcr, hs2, rs_ws hr2 hwr2, hs3, rs_ws hr3 hwr2⟩) (show sc.length - (k + 1) < sc.length - k from (by omega)) (by rcases cu0 with _ | ⟨D0, u0⟩ <;> rcases cu2 with _ | ⟨D2, u2⟩ <;> rcases cu3 with _ | ⟨D3, u3⟩ <;> rfl) ⟨rfl, rfl, rfl, rfl, rfl, rfl, rfl, rfl, trivial⟩ (by rcases cu0 with _ | ⟨D0, u0⟩ <;> rcases cu2 with _ | ⟨D2, u2⟩ <;> rcases cu3 with _ | ⟨D3, u3⟩ <;> (repeat' first | exact trivial | refine ⟨rfl, ?_⟩))
        exact absurd hc18 (by decide)
      refine ccell 3 1 (.ptr 8 0 0) rfl rfl (fun M ρ v h => op_ptr h) ?_
      obtain ⟨hrel, hrng, hcr⟩ := hr1.r C t rfl
      obtain ⟨hC, hpc, htl, hx1⟩ := hs1.cur C t rfl
      have hx1 : 1 ≤ x1 := hx1
      refine r1 ?_
      refine s1 48 65 1 rfl rfl rfl rfl rfl rfl trivial ?_
      refine s1 49 73 2 rfl rfl rfl rfl rfl rfl (by first | trivial | omega) ?_
      refine s1 50 81 3 rfl rfl rfl rfl rfl rfl (by first | trivial | omega) ?_
      refine sNilP 51 89 4 rfl rfl rfl rfl rfl rfl rfl rfl ?_
      refine e1 97 rfl ?_
      refine keep [2, 9, 10, 11, 12, 13, 14, 41, 42, 43, 51] rfl ?_
      refine q1 rfl (fun hc18 => ?_) (fun hc18 => ?_)
      · skip
        exact absurd hc18 (by decide)
      try simp only [cs, ne_eq] at hc18
      refine W_skip ?_
      refine tn ?_
      have haf := rel_step hC hrel hrng hpc htl
      have hlv : Live ws.length C t ws := ⟨hC, ⟨hpc, htl, rfl⟩⟩
      have hwl2 := ws_len hlv rfl
      have hrg2 := vstep_rng hcr hrng
      refine r1 ?_
      refine s1 97 97 1 rfl rfl rfl rfl rfl rfl trivial ?_
      refine s1 98 105 2 rfl rfl rfl rfl rfl rfl (by first | trivial | omega) ?_
      refine s1 99 113 3 rfl rfl rfl rfl rfl rfl (by first | trivial | omega) ?_
      refine s1 100 121 4 rfl rfl rfl rfl rfl rfl trivial ?_
      refine c1 (one_any C w1 ws hC (rel_pc hrel hpc) (by omega) (by rw [hrel.told]; exact htl) _ rfl) [8, 9, 10, 1] [8, 9, 10, 1, 129] 101 129 5 rfl rfl rfl rfl rfl rfl rfl rfl Tryd.func23 rfl rfl rfl rfl ⟨rfl, rfl, rfl, rfl, trivial⟩ rfl rfl ?_
      refine e1 137 rfl ?_
      refine keep [2, 9, 10, 11, 12, 13, 14, 41, 42, 43] rfl ?_
      refine cval 9 (.sl 1 0 (rone C ws w1).2.length) rfl (by rw [haf.2, hwl2]) ?_
      refine r1 ?_
      refine s1 102 137 1 rfl rfl rfl rfl rfl rfl trivial ?_
      refine s1 103 145 2 rfl rfl rfl rfl rfl rfl (by first | trivial | omega) ?_
      refine s1 104 153 3 rfl rfl rfl rfl rfl rfl (by first | trivial | omega) ?_
      refine s1 105 161 4 rfl rfl rfl rfl rfl rfl trivial ?_
      refine s1 106 169 5 rfl rfl rfl rfl rfl rfl trivial ?_
      refine s1 107 177 6 rfl rfl rfl rfl rfl rfl (by first | trivial | omega) ?_
      refine e1 185 rfl ?_
      refine keep [2, 9, 10, 11, 12, 13, 14, 41, 42, 43, 107] rfl ?_
      refine q1 rfl (fun hc25 => ?_) (fun hc25 => ?_)
      · skip
        try simp only [cs, ne_eq] at hc25
        have hov := hc25
        refine cfreeze 8 3 129 (rone C ws w1).1.told.length rfl rfl rfl (Nat.le_refl _) rfl ?_
        refine rd1 rfl ?_
        refine d1 108 185 1 rfl rfl rfl rfl rfl rfl trivial ?_
        refine d1 109 193 2 rfl rfl rfl rfl rfl rfl trivial ?_
        refine d1 110 201 3 rfl rfl rfl rfl rfl rfl trivial ?_
        refine d1 111 209 4 rfl rfl rfl rfl rfl rfl trivial ?_
        refine d1 112 217 5 rfl rfl rfl rfl rfl rfl (by first | trivial | omega) ?_
        refine d1 113 225 6 rfl rfl rfl rfl rfl rfl (by first | trivial | omega) ?_
        refine dA 114 233 7 rfl rfl rfl rfl rfl rfl rfl rfl rfl (by unfold inRange; dsimp only; omega) ?_
        refine d1 115 241 8 rfl rfl rfl rfl rfl rfl trivial ?_
        refine d1 116 249 9 rfl rfl rfl rfl rfl rfl (by first | trivial | omega) ?_
        refine d1 117 257 10 rfl rfl rfl rfl rfl rfl (by first | trivial | omega) ?_
        refine d1 118 265 11 rfl rfl rfl rfl rfl rfl trivial ?_
        refine d1 119 273 12 rfl rfl rfl rfl rfl rfl trivial ?_
        refine d1 120 281 13 rfl rfl rfl rfl rfl rfl (by first | trivial | omega) ?_
        refine d1 121 289 14 rfl rfl rfl rfl rfl rfl trivial ?_
        refine d1 122 297 15 rfl rfl rfl rfl rfl rfl (by first | trivial | omega) ?_
        refine d1 123 305 16 rfl rfl rfl rfl rfl rfl (by first | trivial | omega) ?_
        refine d1 124 313 17 rfl rfl rfl rfl rfl rfl trivial ?_
        refine d1 125 321 18 rfl rfl rfl rfl rfl rfl trivial ?_
        refine d1 126 329 19 rfl rfl rfl rfl rfl rfl (by first | trivial | omega) ?_
        refine d1 127 337 20 rfl rfl rfl rfl rfl rfl trivial ?_
        refine d1 128 345 21 rfl rfl rfl rfl rfl rfl trivial ?_
        refine d1 129 353 22 rfl rfl rfl rfl rfl rfl ⟨Nat.le_refl _, trivial, (by first | (show (out.length + 1) * 64 ≤ 140737488355328; omega) | (show ((out ++ [_]).length + 1) * 64 ≤ 140737488355328; rw [List.length_append, List.length_singleton]; omega)), (by first | (simp only [maxLen]; omega) | (simp only [maxLen, List.length_append, List.length_singleton]; omega))⟩ ?_
        refine d1 12 361 23 rfl rfl rfl rfl rfl rfl trivial ?_
        refine de1 369 rfl (by kernel_rfl) ?_
        refine keep [2, 9, 10, 11, 12, 14, 41, 42, 43] rfl ?_
        refine rowsc 353 (out ++ [(Ev.mk k ((1 : Nat) : Int) (x1 - 1) true (rone C ws w1).1.e (rone C ws w1).1.told)]).length (evF (out ++ [(Ev.mk k ((1 : Nat) : Int) (x1 - 1) true (rone C ws w1).1.e (rone C ws w1).1.told)])) rfl (by simp) (fun i c hi hc => ev_cat out _ _ _ _ _ _ i c hi hc) ?_
        refine cval 12 (.sl 353 0 (out ++ [(Ev.mk k ((1 : Nat) : Int) (x1 - 1) true (rone C ws w1).1.e (rone C ws w1).1.told)]).length) rfl (by simp) ?_
        refine r0 ?_
        refine s1 130 369 1 rfl rfl rfl rfl rfl rfl trivial ?_
        refine s1 131 377 2 rfl rfl rfl rfl rfl rfl (by first | trivial | omega) ?_
        refine s0 385 3 rfl rfl rfl rfl rfl (by first | trivial | omega) ?_
        refine e1 393 rfl ?_
        refine bn ?_
        refine tn ?_
        refine ccell 3 1 (.op 8 false) rfl rfl (fun M ρ v h => nil_op (show VR M ρ (.d (.val (.pointer none))) v from h)) ?_
        have hwr2 : ∀ i, inRange ((rone C ws w1).2.getD i 0) := fun i => by rw [haf.2]; exact hrg2.2 i
        refine r0 ?_
        refine sA 132 393 1 rfl rfl rfl rfl rfl rfl rfl rfl rfl (by unfold inRange; omega) ?_
        refine s1 43 401 2 rfl rfl rfl rfl rfl rfl trivial ?_
        refine e1 409 rfl ?_
        refine tn ?_
        exact again (((k + 1, (rone C ws w1).2, (out ++ [(Ev.mk k ((1 : Nat) : Int) (x1 - 1) true (rone C ws w1).1.e (rone C ws w1).1.told)]), ⟨x0, cu0⟩, ⟨x1, none⟩, ⟨x2, cu2⟩, ⟨x3, cu3⟩, w0, w1, w2, w3) : Nat × (List Int) × (List Ev) × TS × TS × TS × TS × Wkr × Wkr × Wkr × Wkr)) [0, 1, 353, 3, 4, 5, 6, 7, 8, 9, 10, 11, 12, 13, 14, 15, 16] (show (k + 1) ≤ sc.length ∧ prun q (sc.drop (k + 1)) (k + 1) ⟨((rone C ws w1).2), ((out ++ [(Ev.mk k ((1 : Nat) : Int) (x1 - 1) true (rone C ws w1).1.e (rone C ws w1).1.told)])), ([(⟨x0, cu0⟩), (⟨x1, none⟩), (⟨x2, cu2⟩), (⟨x3, cu3⟩)] : List TS).take q.ts.length⟩ = prun q sc 0 (pinit q) ∧ ((rone C ws w1).2).length = q.ws.length ∧ ((out ++ [(Ev.mk k ((1 : Nat) : Int) (x1 - 1) true (rone C ws w1).1.e (rone C ws w1).1.told)])).length ≤ 2 * (k + 1) ∧ (∀ i, inRange (((rone C ws w1).2).getD i 0)) ∧ TSok q 0 (⟨x0, cu0⟩) ∧ RSok ((rone C ws w1).2) (⟨x0, cu0⟩) (w0) ∧ TSok q 1 (⟨x1, none⟩) ∧ RSok ((rone C ws w1).2) (⟨x1, none⟩) (w1) ∧ TSok q 2 (⟨x2, cu2⟩) ∧ RSok ((rone C ws w1).2) (⟨x2, cu2⟩) (w2) ∧ TSok q 3 (⟨x3, cu3⟩) ∧ RSok ((rone C ws w1).2) (⟨x3, cu3⟩) (w3) from ⟨by omega, (by rw [← hrun, prun_at (k := k) (by omega), hv, Int.toNat_natCast, pstep_tk (by omega) (pb_go.trans (goW_over haf hov))]; rfl), (by rw [← hwl, ← hwl2, haf.2]), (by simp only [List.length_append, List.length_singleton]; omega), hwr2, hs0, rs_ws hr0 hwr2, (ok_over (by omega)), rs_none, hs2, rs_ws hr2 hwr2, hs3, rs_ws hr3 hwr2⟩) (show sc.length - (k + 1) < sc.length - k from (by omega)) (by rcases cu0 with _ | ⟨D0, u0⟩ <;> rcases cu2 with _ | ⟨D2, u2⟩ <;> rcases cu3 with _ | ⟨D3, u3⟩ <;> rfl) ⟨rfl, rfl, rfl, rfl, rfl, rfl, rfl, rfl, trivial⟩ (by rcases cu0 with _ | ⟨D0, u0⟩ <;> rcases cu2 with _ | ⟨D2, u2⟩ <;> rcases cu3 with _ | ⟨D3, u3⟩ <;> (repeat' first | exact trivial | refine ⟨rfl, ?_⟩))
      try simp only [cs, ne_eq] at hc25
      refine W_skip ?_
      refine bn ?_
      refine tn ?_
      have hov := hc25
      refine ccell 3 1 (.op 8 true) rfl rfl (fun M ρ v h => ptr_op h) ?_
      have hwr2 : ∀ i, inRange ((rone C ws w1).2.getD i 0) := fun i => by rw [haf.2]; exact hrg2.2 i
      refine r0 ?_
      refine sA 132 185 1 rfl rfl rfl rfl rfl rfl rfl rfl rfl (by unfold inRange; omega) ?_
      refine s1 43 193 2 rfl rfl rfl rfl rfl rfl trivial ?_
      refine e1 201 rfl ?_
      refine tn ?_
      exact again (((k + 1, (rone C ws w1).2, out, ⟨x0, cu0⟩, ⟨x1, some (C, (vstep C ws t).1)⟩, ⟨x2, cu2⟩, ⟨x3, cu3⟩, w0, (rone C ws w1).1, w2, w3) : Nat × (List Int) × (List Ev) × TS × TS × TS × TS × Wkr × Wkr × Wkr × Wkr)) [0, 1, 2, 3, 4, 5, 6, 7, 8, 9, 129, 11, 12, 13, 14, 15, 16] (show (k + 1) ≤ sc.length ∧ prun q (sc.drop (k + 1)) (k + 1) ⟨((rone C ws w1).2), (out), ([(⟨x0, cu0⟩), (⟨x1, some (C, (vstep C ws t).1)⟩), (⟨x2, cu2⟩), (⟨x3, cu3⟩)] : List TS).take q.ts.length⟩ = prun q sc 0 (pinit q) ∧ ((rone C ws w1).2).length = q.ws.length ∧ (out).length ≤ 2 * (k + 1) ∧ (∀ i, inRange (((rone C ws w1).2).getD i 0)) ∧ TSok q 0 (⟨x0, cu0⟩) ∧ RSok ((rone C ws w1).2) (⟨x0, cu0⟩) (w0) ∧ TSok q 1 (⟨x1, some (C, (vstep C ws t).1)⟩) ∧ RSok ((rone C ws w1).2) (⟨x1, some (C, (vstep C ws t).1)⟩) ((rone C ws w1).1) ∧ TSok q 2 (⟨x2, cu2⟩) ∧ RSok ((rone C ws w1).2) (⟨x2, cu2⟩) (w2) ∧ TSok q 3 (⟨x3, cu3⟩) ∧ RSok ((rone C ws w1).2) (⟨x3, cu3⟩) (w3) from ⟨by omega, (by rw [← hrun, prun_at (k := k) (by omega), hv, Int.toNat_natCast, pstep_tk (by omega) (pb_go.trans (goW_alive haf hov))]; rfl), (by rw [← hwl, ← hwl2, haf.2]), (by omega), hwr2, hs0, rs_ws hr0 hwr2, (ok_alive hlv (by omega) rfl), rs_some haf.1 ⟨hrg2.1, hwr2⟩ hcr, hs2, rs_ws hr2 hwr2, hs3, rs_ws hr3 hwr2⟩) (show sc.length - (k + 1) < sc.length - k from (by omega)) (by rcases cu0 with _ | ⟨D0, u0⟩ <;> rcases cu2 with _ | ⟨D2, u2⟩ <;> rcases cu3 with _ | ⟨D3, u3⟩ <;> rfl) ⟨rfl, rfl, rfl, rfl, rfl, rfl, rfl, rfl, trivial⟩ (by rcases cu0 with _ | ⟨D0, u0⟩ <;> rcases cu2 with _ | ⟨D2, u2⟩ <;> rcases cu3 with _ | ⟨D3, u3⟩ <;> (repeat' first | exact trivial | refine ⟨rfl, ?_⟩))
    · skip
      refine cval 14 (SV.i ((2 : Nat) : Int)) rfl (by rw [hv]) ?_
      have hx20 : 0 ≤ x2 ∧ x2 ≤ ((q.ts.getD 2 []).length : Int) := hs2.nx
      rcases cu2 with _ | ⟨C, t⟩
      · skip
        refine ccell 3 2 (.d (.val (.pointer none))) rfl rfl (fun M ρ v h => op_nil h) ?_
        refine r1 ?_
        refine s1 48 65 1 rfl rfl rfl rfl rfl rfl trivial ?_
        refine s1 49 73 2 rfl rfl rfl rfl rfl rfl (by first | trivial | omega) ?_
        refine s1 50 81 3 rfl rfl rfl rfl rfl rfl (by first | trivial | omega) ?_
        refine sNilP 51 89 4 rfl rfl rfl rfl rfl rfl rfl rfl ?_
        refine e1 97 rfl ?_
        refine keep [2, 9, 10, 11, 12, 13, 14, 41, 42, 43, 51] rfl ?_
        refine q1 rfl (fun hc18 => ?_) (fun hc18 => ?_)
        · skip
          try simp only [cs, ne_eq] at hc18
          refine W_seq ?_
          refine rd1 rfl ?_
          refine d1 52 97 1 rfl rfl rfl rfl rfl rfl trivial ?_
          refine d1 53 105 2 rfl rfl rfl rfl rfl rfl (by first | trivial | omega) ?_
          refine d1 54 113 3 rfl rfl rfl rfl rfl rfl (by first | trivial | omega) ?_
          refine d1 55 121 4 rfl rfl rfl rfl rfl rfl trivial ?_
          refine d1 56 129 5 rfl rfl rfl rfl rfl rfl (by first | trivial | omega) ?_
          refine d1 57 137 6 rfl rfl rfl rfl rfl rfl trivial ?_
          refine d1 58 145 7 rfl rfl rfl rfl rfl rfl (by omega) ?_
          refine d1 59 153 8 rfl rfl rfl rfl rfl rfl (by first | trivial | omega) ?_
          refine d1 60 161 9 rfl rfl rfl rfl rfl rfl (by first | trivial | omega) ?_
          refine d1 61 169 10 rfl rfl rfl rfl rfl rfl (by first | trivial | omega) ?_
          refine de1 177 rfl (by kernel_rfl) ?_
          refine keep [2, 9, 10, 11, 12, 13, 14, 41, 42, 43, 61] rfl ?_
          refine q1 rfl (fun hc19 => ?_) (fun hc19 => ?_)
          · skip
            try simp only [cs, ne_eq] at hc19
            simp only [Int.toNat_natCast] at hc19
            have hlt : ¬ x2 < (q.ts.getD 2 []).length := (by omega)
            refine W_exit ?_
            refine tx ?_
            refine tx ?_
            refine bx ?_
            refine tn ?_
            refine ccell 3 2 (.op 11 false) rfl rfl (fun M ρ v h => nil_op (show VR M ρ (.d (.val (.pointer none))) v from h)) ?_
            refine r0 ?_
            refine sA 132 177 1 rfl rfl rfl rfl rfl rfl rfl rfl rfl (by unfold inRange; omega) ?_
            refine s1 43 185 2 rfl rfl rfl rfl rfl rfl trivial ?_
            refine e1 193 rfl ?_
            refine tn ?_
            exact again (((k + 1, ws, out, ⟨x0, cu0⟩, ⟨x1, cu1⟩, ⟨x2, none⟩, ⟨x3, cu3⟩, w0, w1, w2, w3) : Nat × (List Int) × (List Ev) × TS × TS × TS × TS × Wkr × Wkr × Wkr × Wkr)) [0, 1, 2, 3, 4, 5, 6, 7, 8, 9, 10, 11, 12, 13, 14, 15, 16] (show (k + 1) ≤ sc.length ∧ prun q (sc.drop (k + 1)) (k + 1) ⟨(ws), (out), ([(⟨x0, cu0⟩), (⟨x1, cu1⟩), (⟨x2, none⟩), (⟨x3, cu3⟩)] : List TS).take q.ts.length⟩ = prun q sc 0 (pinit q) ∧ (ws).length = q.ws.length ∧ (out).length ≤ 2 * (k + 1) ∧ (∀ i, inRange ((ws).getD i 0)) ∧ TSok q 0 (⟨x0, cu0⟩) ∧ RSok (ws) (⟨x0, cu0⟩) (w0) ∧ TSok q 1 (⟨x1, cu1⟩) ∧ RSok (ws) (⟨x1, cu1⟩) (w1) ∧ TSok q 2 (⟨x2, none⟩) ∧ RSok (ws) (⟨x2, none⟩) (w2) ∧ TSok q 3 (⟨x3, cu3⟩) ∧ RSok (ws) (⟨x3, cu3⟩) (w3) from ⟨by omega, (by rw [← hrun, prun_at (k := k) (by omega), hv, Int.toNat_natCast, pstep_tk (by omega) (pb_idle hlt)]; rfl), hwl, (by omega), hwr, hs0, hr0, hs1, hr1, hs2, hr2, hs3, hr3⟩) (show sc.length - (k + 1) < sc.length - k from (by omega)) (by rcases cu0 with _ | ⟨D0, u0⟩ <;> rcases cu1 with _ | ⟨D1, u1⟩ <;> rcases cu3 with _ | ⟨D3, u3⟩ <;> rfl) ⟨rfl, rfl, rfl, rfl, rfl, rfl, rfl, rfl, trivial⟩ (by rcases cu0 with _ | ⟨D0, u0⟩ <;> rcases cu1 with _ | ⟨D1, u1⟩ <;> rcases cu3 with _ | ⟨D3, u3⟩ <;> (repeat' first | exact trivial | refine ⟨rfl, ?_⟩))
          try simp only [cs, ne_eq] at hc19
          simp only [Int.toNat_natCast] at hc19
          have hlt : x2 < (q.ts.getD 2 []).length := (by omega)
          obtain ⟨hcc1, hcc2, hcc3, hcode⟩ := hcl 2 (by omega) x2 hx20.1 hlt
          have hc12 : 0 ≤ ((q.ts.getD 2 []).getD x2.toNat default).code ∧ ((q.ts.getD 2 []).getD x2.toNat default).code < q.cs.length := ⟨hcc1, hcc2⟩
          refine W_skip ?_
          refine tn ?_
          refine rd1 rfl ?_
          refine d1 62 177 1 rfl rfl rfl rfl rfl rfl trivial ?_
          refine d1 63 185 2 rfl rfl rfl rfl rfl rfl (by first | trivial | omega) ?_
          refine d1 64 193 3 rfl rfl rfl rfl rfl rfl trivial ?_
          refine d1 65 201 4 rfl rfl rfl rfl rfl rfl (by omega) ?_
          refine d1 66 209 5 rfl rfl rfl rfl rfl rfl (by first | trivial | omega) ?_
          refine d1 67 217 6 rfl rfl rfl rfl rfl rfl trivial ?_
          refine d1 68 225 7 rfl rfl rfl rfl rfl rfl (by first | trivial | omega) ?_
          refine d1 69 233 8 rfl rfl rfl rfl rfl rfl (by first | trivial | omega) ?_
          refine d1 70 241 9 rfl rfl rfl rfl rfl rfl (by first | trivial | omega | (simp only [Int.toNat_natCast]; omega)) ?_
          refine d1 71 249 10 rfl rfl rfl rfl rfl rfl (by first | trivial | omega | (simp only [Int.toNat_natCast]; omega)) ?_
          refine d1 15 257 11 rfl rfl rfl rfl rfl rfl trivial ?_
          refine d0 265 12 rfl rfl rfl rfl rfl (by first | trivial | omega) ?_
          refine de1 273 rfl (by kernel_rfl) ?_
          refine keep [2, 9, 10, 11, 12, 13, 14, 15, 41, 42, 43] rfl ?_
          refine rd1 rfl ?_
          refine d1 72 273 1 rfl rfl rfl rfl rfl rfl trivial ?_
          refine d1 73 281 2 rfl rfl rfl rfl rfl rfl trivial ?_
          refine d1 74 289 3 rfl rfl rfl rfl rfl rfl (by first | trivial | omega) ?_
          refine d1 75 297 4 rfl rfl rfl rfl rfl rfl trivial ?_
          refine d1 76 305 5 rfl rfl rfl rfl rfl rfl (by first | trivial | omega) ?_
          refine d1 77 313 6 rfl rfl rfl rfl rfl rfl (by first | trivial | omega | (simp only [Int.toNat_natCast]; omega)) ?_
          refine d1 78 321 7 rfl rfl rfl rfl rfl rfl (by first | trivial | omega | (simp only [Int.toNat_natCast]; omega)) ?_
          refine d1 79 329 8 rfl rfl rfl rfl rfl rfl trivial ?_
          refine d1 80 337 9 rfl rfl rfl rfl rfl rfl (by first | trivial | omega) ?_
          refine dc1 (worker_any (codeOf q 2 x2) (callAt q 2 x2).args (by omega)) [] [345, 346] 81 345 10 rfl rfl rfl rfl rfl rfl rfl rfl Tryd.func22 rfl rfl rfl rfl trivial rfl rfl ?_
          refine d1 82 353 11 rfl rfl rfl rfl rfl rfl (by first | trivial | omega) ?_
          refine d0 361 12 rfl rfl rfl rfl rfl (by first | trivial | omega) ?_
          refine de1 369 rfl (by kernel_rfl) ?_
          refine keep [2, 9, 10, 11, 12, 13, 14, 41, 42, 43] rfl ?_
          refine r1 ?_
          refine s1 83 369 1 rfl rfl rfl rfl rfl rfl trivial ?_
          refine s1 84 377 2 rfl rfl rfl rfl rfl rfl trivial ?_
          refine s1 85 385 3 rfl rfl rfl rfl rfl rfl trivial ?_
          refine s1 86 393 4 rfl rfl rfl rfl rfl rfl trivial ?_
          refine s1 87 401 5 rfl rfl rfl rfl rfl rfl (by first | trivial | omega) ?_
          refine s1 88 409 6 rfl rfl rfl rfl rfl rfl (by first | trivial | omega) ?_
          refine s1 89 417 7 rfl rfl rfl rfl rfl rfl trivial ?_
          refine s1 90 425 8 rfl rfl rfl rfl rfl rfl trivial ?_
          refine s1 91 433 9 rfl rfl rfl rfl rfl rfl ⟨Nat.le_refl _, trivial, (by show (out.length + 1) * 64 ≤ 140737488355328; omega), (by simp only [maxLen]; omega)⟩ ?_
          refine s1 12 441 10 rfl rfl rfl rfl rfl rfl trivial ?_
          refine e1 449 rfl ?_
          refine keep [2, 9, 10, 11, 12, 13, 14, 41, 42, 43] rfl ?_
          refine r0 ?_
          refine s1 92 449 1 rfl rfl rfl rfl rfl rfl trivial ?_
          refine s1 93 457 2 rfl rfl rfl rfl rfl rfl (by first | trivial | omega) ?_
          refine s1 94 465 3 rfl rfl rfl rfl rfl rfl (by first | trivial | omega) ?_
          refine sA 95 473 4 rfl rfl rfl rfl rfl rfl rfl rfl rfl (by unfold inRange; dsimp only; omega) ?_
          refine s1 96 481 5 rfl rfl rfl rfl rfl rfl (by first | trivial | omega) ?_
          refine s0 489 6 rfl rfl rfl rfl rfl (by first | trivial | omega) ?_
          refine e1 497 rfl ?_
          refine tn ?_
          refine cghostly 345 3 3 1 (intsF []) rfl rfl rfl ?_
          refine rowsw 433 (out ++ [(Ev.mk k ((2 : Nat) : Int) x2 false 0 [])]).length (evF (out ++ [(Ev.mk k ((2 : Nat) : Int) x2 false 0 [])])) rfl (by simp) (fun i c hi hc M v h => ev_cat0 out _ _ _ i c hi hc M v h) ?_
          refine cval 12 (.sl 433 0 (out ++ [(Ev.mk k ((2 : Nat) : Int) x2 false 0 [])]).length) rfl (by simp) ?_
          have hrel := new_rel (codeOf q 2 x2) (callAt q 2 x2).args
          have hrng : Rng ((vnew (codeOf q 2 x2) (callAt q 2 x2).args), ws) := new_rng (hmr.args 2 x2) hwr
          have hcr : CRng (codeOf q 2 x2) := hmr.cs _
          have hC := hcode
          have hvn := vnew_ok (C := (codeOf q 2 x2)) (l := (callAt q 2 x2).args) (ws := ws)
          have hpc := hvn.pc
          have htl := hvn.told
          have haf := rel_step hC hrel hrng hpc htl
          have hlv : Live ws.length (codeOf q 2 x2) (vnew (codeOf q 2 x2) (callAt q 2 x2).args) ws := ⟨hC, ⟨hpc, htl, rfl⟩⟩
          have hwl2 := ws_len hlv rfl
          have hrg2 := vstep_rng hcr hrng
          refine r1 ?_
          refine s1 97 505 1 rfl rfl rfl rfl rfl rfl trivial ?_
          refine s1 98 513 2 rfl rfl rfl rfl rfl rfl (by first | trivial | omega) ?_
          refine s1 99 521 3 rfl rfl rfl rfl rfl rfl (by first | trivial | omega) ?_
          refine s1 100 529 4 rfl rfl rfl rfl rfl rfl trivial ?_
          refine c1 (one_any (codeOf q 2 x2) (wnew (codeOf q 2 x2) (callAt q 2 x2).args) ws hC (rel_pc hrel hpc) (by omega) (by rw [hrel.told]; exact htl) _ rfl) [345, 346, 497, 1] [345, 346, 497, 1, 537] 101 537 5 rfl rfl rfl rfl rfl rfl rfl rfl Tryd.func23 rfl rfl rfl rfl ⟨rfl, rfl, rfl, rfl, trivial⟩ rfl rfl ?_
          refine e1 545 rfl ?_
          refine keep [2, 9, 10, 11, 12, 13, 14, 41, 42, 43] rfl ?_
          refine cval 9 (.sl 1 0 (rone (codeOf q 2 x2) ws (wnew (codeOf q 2 x2) (callAt q 2 x2).args)).2.length) rfl (by rw [haf.2, hwl2]) ?_
          refine r1 ?_
          refine s1 102 545 1 rfl rfl rfl rfl rfl rfl trivial ?_
          refine s1 103 553 2 rfl rfl rfl rfl rfl rfl (by first | trivial | omega) ?_
          refine s1 104 561 3 rfl rfl rfl rfl rfl rfl (by first | trivial | omega) ?_
          refine s1 105 569 4 rfl rfl rfl rfl rfl rfl trivial ?_
          refine s1 106 577 5 rfl rfl rfl rfl rfl rfl trivial ?_
          refine s1 107 585 6 rfl rfl rfl rfl rfl rfl (by first | trivial | omega) ?_
          refine e1 593 rfl ?_
          refine keep [2, 9, 10, 11, 12, 13, 14, 41, 42, 43, 107] rfl ?_
          refine q1 rfl (fun hc25 => ?_) (fun hc25 => ?_)
          · skip
            try simp only [cs, ne_eq] at hc25
            have hov := hc25
            refine cfreeze 345 3 537 (rone (codeOf q 2 x2) ws (wnew (codeOf q 2 x2) (callAt q 2 x2).args)).1.told.length rfl rfl rfl (Nat.le_refl _) rfl ?_
            refine rd1 rfl ?_
            refine d1 108 593 1 rfl rfl rfl rfl rfl rfl trivial ?_
            refine d1 109 601 2 rfl rfl rfl rfl rfl rfl trivial ?_
            refine d1 110 609 3 rfl rfl rfl rfl rfl rfl trivial ?_
            refine d1 111 617 4 rfl rfl rfl rfl rfl rfl trivial ?_
            refine d1 112 625 5 rfl rfl rfl rfl rfl rfl (by first | trivial | omega) ?_
            refine d1 113 633 6 rfl rfl rfl rfl rfl rfl (by first | trivial | omega) ?_
            refine dA 114 641 7 rfl rfl rfl rfl rfl rfl rfl rfl rfl (by unfold inRange; dsimp only; omega) ?_
            refine d1 115 649 8 rfl rfl rfl rfl rfl rfl trivial ?_
            refine d1 116 657 9 rfl rfl rfl rfl rfl rfl (by first | trivial | omega) ?_
            refine d1 117 665 10 rfl rfl rfl rfl rfl rfl (by first | trivial | omega) ?_
            refine d1 118 673 11 rfl rfl rfl rfl rfl rfl trivial ?_
            refine d1 119 681 12 rfl rfl rfl rfl rfl rfl trivial ?_
            refine d1 120 689 13 rfl rfl rfl rfl rfl rfl (by first | trivial | omega) ?_
            refine d1 121 697 14 rfl rfl rfl rfl rfl rfl trivial ?_
            refine d1 122 705 15 rfl rfl rfl rfl rfl rfl (by first | trivial | omega) ?_
            refine d1 123 713 16 rfl rfl rfl rfl rfl rfl (by first | trivial | omega) ?_
            refine d1 124 721 17 rfl rfl rfl rfl rfl rfl trivial ?_
            refine d1 125 729 18 rfl rfl rfl rfl rfl rfl trivial ?_
            refine d1 126 737 19 rfl rfl rfl rfl rfl rfl (by first | trivial | omega) ?_
            refine d1 127 745 20 rfl rfl rfl rfl rfl rfl trivial ?_
            refine d1 128 753 21 rfl rfl rfl rfl rfl rfl trivial ?_
            refine d1 129 761 22 rfl rfl rfl rfl rfl rfl ⟨Nat.le_refl _, trivial, (by first | (show (out.length + 1) * 64 ≤ 140737488355328; omega) | (show ((out ++ [_]).length + 1) * 64 ≤ 140737488355328; rw [List.length_append, List.length_singleton]; omega)), (by first | (simp only [maxLen]; omega) | (simp only [maxLen, List.length_append, List.length_singleton]; omega))⟩ ?_
            refine d1 12 769 23 rfl rfl rfl rfl rfl rfl trivial ?_
            refine de1 777 rfl (by kernel_rfl) ?_
            refine keep [2, 9, 10, 11, 12, 14, 41, 42, 43] rfl ?_
            refine rowsc 761 ((out ++ [(Ev.mk k ((2 : Nat) : Int) x2 false 0 [])]) ++ [(Ev.mk k ((2 : Nat) : Int) ((x2 + 1) - 1) true (rone (codeOf q 2 x2) ws (wnew (codeOf q 2 x2) (callAt q 2 x2).args)).1.e (rone (codeOf q 2 x2) ws (wnew (codeOf q 2 x2) (callAt q 2 x2).args)).1.told)]).length (evF ((out ++ [(Ev.mk k ((2 : Nat) : Int) x2 false 0 [])]) ++ [(Ev.mk k ((2 : Nat) : Int) ((x2 + 1) - 1) true (rone (codeOf q 2 x2) ws (wnew (codeOf q 2 x2) (callAt q 2 x2).args)).1.e (rone (codeOf q 2 x2) ws (wnew (codeOf q 2 x2) (callAt q 2 x2).args)).1.told)])) rfl (by simp) (fun i c hi hc => ev_cat (out ++ [(Ev.mk k ((2 : Nat) : Int) x2 false 0 [])]) _ _ _ _ _ _ i c hi hc) ?_
            refine cval 12 (.sl 761 0 ((out ++ [(Ev.mk k ((2 : Nat) : Int) x2 false 0 [])]) ++ [(Ev.mk k ((2 : Nat) : Int) ((x2 + 1) - 1) true (rone (codeOf q 2 x2) ws (wnew (codeOf q 2 x2) (callAt q 2 x2).args)).1.e (rone (codeOf q 2 x2) ws (wnew (codeOf q 2 x2) (callAt q 2 x2).args)).1.told)]).length) rfl (by simp) ?_
            refine r0 ?_
            refine s1 130 777 1 rfl rfl rfl rfl rfl rfl trivial ?_
            refine s1 131 785 2 rfl rfl rfl rfl rfl rfl (by first | trivial | omega) ?_
            refine s0 793 3 rfl rfl rfl rfl rfl (by first | trivial | omega) ?_
            refine e1 801 rfl ?_
            refine bn ?_
            refine tn ?_
            refine ccell 3 2 (.op 11 false) rfl rfl (fun M ρ v h => nil_op (show VR M ρ (.d (.val (.pointer none))) v from h)) ?_
            have hwr2 : ∀ i, inRange ((rone (codeOf q 2 x2) ws (wnew (codeOf q 2 x2) (callAt q 2 x2).args)).2.getD i 0) := fun i => by rw [haf.2]; exact hrg2.2 i
            refine r0 ?_
            refine sA 132 801 1 rfl rfl rfl rfl rfl rfl rfl rfl rfl (by unfold inRange; omega) ?_
            refine s1 43 809 2 rfl rfl rfl rfl rfl rfl trivial ?_
            refine e1 817 rfl ?_
            refine tn ?_
            exact again (((k + 1, (rone (codeOf q 2 x2) ws (wnew (codeOf q 2 x2) (callAt q 2 x2).args)).2, ((out ++ [(Ev.mk k ((2 : Nat) : Int) x2 false 0 [])]) ++ [(Ev.mk k ((2 : Nat) : Int) ((x2 + 1) - 1) true (rone (codeOf q 2 x2) ws (wnew (codeOf q 2 x2) (callAt q 2 x2).args)).1.e (rone (codeOf q 2 x2) ws (wnew (codeOf q 2 x2) (callAt q 2 x2).args)).1.told)]), ⟨x0, cu0⟩, ⟨x1, cu1⟩, ⟨(x2 + 1), none⟩, ⟨x3, cu3⟩, w0, w1, w2, w3) : Nat × (List Int) × (List Ev) × TS × TS × TS × TS × Wkr × Wkr × Wkr × Wkr)) [0, 1, 761, 3, 4, 5, 6, 7, 8, 9, 10, 11, 12, 13, 14, 15, 16] (show (k + 1) ≤ sc.length ∧ prun q (sc.drop (k + 1)) (k + 1) ⟨((rone (codeOf q 2 x2) ws (wnew (codeOf q 2 x2) (callAt q 2 x2).args)).2), (((out ++ [(Ev.mk k ((2 : Nat) : Int) x2 false 0 [])]) ++ [(Ev.mk k ((2 : Nat) : Int) ((x2 + 1) - 1) true (rone (codeOf q 2 x2) ws (wnew (codeOf q 2 x2) (callAt q 2 x2).args)).1.e (rone (codeOf q 2 x2) ws (wnew (codeOf q 2 x2) (callAt q 2 x2).args)).1.told)])), ([(⟨x0, cu0⟩), (⟨x1, cu1⟩), (⟨(x2 + 1), none⟩), (⟨x3, cu3⟩)] : List TS).take q.ts.length⟩ = prun q sc 0 (pinit q) ∧ ((rone (codeOf q 2 x2) ws (wnew (codeOf q 2 x2) (callAt q 2 x2).args)).2).length = q.ws.length ∧ (((out ++ [(Ev.mk k ((2 : Nat) : Int) x2 false 0 [])]) ++ [(Ev.mk k ((2 : Nat) : Int) ((x2 + 1) - 1) true (rone (codeOf q 2 x2) ws (wnew (codeOf q 2 x2) (callAt q 2 x2).args)).1.e (rone (codeOf q 2 x2) ws (wnew (codeOf q 2 x2) (callAt q 2 x2).args)).1.told)])).length ≤ 2 * (k + 1) ∧ (∀ i, inRange (((rone (codeOf q 2 x2) ws (wnew (codeOf q 2 x2) (callAt q 2 x2).args)).2).getD i 0)) ∧ TSok q 0 (⟨x0, cu0⟩) ∧ RSok ((rone (codeOf q 2 x2) ws (wnew (codeOf q 2 x2) (callAt q 2 x2).args)).2) (⟨x0, cu0⟩) (w0) ∧ TSok q 1 (⟨x1, cu1⟩) ∧ RSok ((rone (codeOf q 2 x2) ws (wnew (codeOf q 2 x2) (callAt q 2 x2).args)).2) (⟨x1, cu1⟩) (w1) ∧ TSok q 2 (⟨(x2 + 1), none⟩) ∧ RSok ((rone (codeOf q 2 x2) ws (wnew (codeOf q 2 x2) (callAt q 2 x2).args)).2) (⟨(x2 + 1), none⟩) (w2) ∧ TSok q 3 (⟨x3, cu3⟩) ∧ RSok ((rone (codeOf q 2 x2) ws (wnew (codeOf q 2 x2) (callAt q 2 x2).args)).2) (⟨x3, cu3⟩) (w3) from ⟨by omega, (by rw [← hrun, prun_at (k := k) (by omega), hv, Int.toNat_natCast, pstep_tk (by omega) ((pb_begin hlt).trans (goW_over haf hov))]; rfl), (by rw [← hwl, ← hwl2, haf.2]), (by simp only [List.length_append, List.length_singleton]; omega), hwr2, hs0, rs_ws hr0 hwr2, hs1, rs_ws hr1 hwr2, (ok_over (by omega)), rs_none, hs3, rs_ws hr3 hwr2⟩) (show sc.length - (k + 1) < sc.length - k from (by omega)) (by rcases cu0 with _ | ⟨D0, u0⟩ <;> rcases cu1 with _ | ⟨D1, u1⟩ <;> rcases cu3 with _ | ⟨D3, u3⟩ <;> rfl) ⟨rfl, rfl, rfl, rfl, rfl, rfl, rfl, rfl, trivial⟩ (by rcases cu0 with _ | ⟨D0, u0⟩ <;> rcases cu1 with _ | ⟨D1, u1⟩ <;> rcases cu3 with _ | ⟨D3, u3⟩ <;> (repeat' first | exact trivial | refine ⟨rfl, ?_⟩))
          try simp only [cs, ne_eq] at hc25
          refine W_skip ?_
          refine bn ?_
          refine tn ?_
          have hov := hc25
          refine ccell 3 2 (.op 345 true) rfl rfl (fun M ρ v h => ptr_op h) ?_
          have hwr2 : ∀ i, inRange ((rone (codeOf q 2 x2) ws (wnew (codeOf q 2 x2) (callAt q 2 x2).args)).2.getD i 0) := fun i => by rw [haf.2]; exact hrg2.2 i
          refine r0 ?_
          refine sA 132 593 1 rfl rfl rfl rfl rfl rfl rfl rfl rfl (by unfold inRange; omega) ?_
          refine s1 43 601 2 rfl rfl rfl rfl rfl rfl trivial ?_
          refine e1 609 rfl ?_
          refine tn ?_
          exact again (((k + 1, (rone (codeOf q 2 x2) ws (wnew (codeOf q 2 x2) (callAt q 2 x2).args)).2, (out ++ [(Ev.mk k ((2 : Nat) : Int) x2 false 0 [])]), ⟨x0, cu0⟩, ⟨x1, cu1⟩, ⟨(x2 + 1), some ((codeOf q 2 x2), (vstep (codeOf q 2 x2) ws (vnew (codeOf q 2 x2) (callAt q 2 x2).args)).1)⟩, ⟨x3, cu3⟩, w0, w1, (rone (codeOf q 2 x2) ws (wnew (codeOf q 2 x2) (callAt q 2 x2).args)).1, w3) : Nat × (List Int) × (List Ev) × TS × TS × TS × TS × Wkr × Wkr × Wkr × Wkr)) [0, 1, 433, 3, 4, 5, 6, 7, 8, 9, 10, 345, 346, 537, 14, 15, 16] (show (k + 1) ≤ sc.length ∧ prun q (sc.drop (k + 1)) (k + 1) ⟨((rone (codeOf q 2 x2) ws (wnew (codeOf q 2 x2) (callAt q 2 x2).args)).2), ((out ++ [(Ev.mk k ((2 : Nat) : Int) x2 false 0 [])])), ([(⟨x0, cu0⟩), (⟨x1, cu1⟩), (⟨(x2 + 1), some ((codeOf q 2 x2), (vstep (codeOf q 2 x2) ws (vnew (codeOf q 2 x2) (callAt q 2 x2).args)).1)⟩), (⟨x3, cu3⟩)] : List TS).take q.ts.length⟩ = prun q sc 0 (pinit q) ∧ ((rone (codeOf q 2 x2) ws (wnew (codeOf q 2 x2) (callAt q 2 x2).args)).2).length = q.ws.length ∧ ((out ++ [(Ev.mk k ((2 : Nat) : Int) x2 false 0 [])])).length ≤ 2 * (k + 1) ∧ (∀ i, inRange (((rone (codeOf q 2 x2) ws (wnew (codeOf q 2 x2) (callAt q 2 x2).args)).2).getD i 0)) ∧ TSok q 0 (⟨x0, cu0⟩) ∧ RSok ((rone (codeOf q 2 x2) ws (wnew (codeOf q 2 x2) (callAt q 2 x2).args)).2) (⟨x0, cu0⟩) (w0) ∧ TSok q 1 (⟨x1, cu1⟩) ∧ RSok ((rone (codeOf q 2 x2) ws (wnew (codeOf q 2 x2) (callAt q 2 x2).args)).2) (⟨x1, cu1⟩) (w1) ∧ TSok q 2 (⟨(x2 + 1), some ((codeOf q 2 x2), (vstep (codeOf q 2 x2) ws (vnew (codeOf q 2 x2) (callAt q 2 x2).args)).1)⟩) ∧ RSok ((rone (codeOf q 2 x2) ws (wnew (codeOf q 2 x2) (callAt q 2 x2).args)).2) (⟨(x2 + 1), some ((codeOf q 2 x2), (vstep (codeOf q 2 x2) ws (vnew (codeOf q 2 x2) (callAt q 2 x2).args)).1)⟩) ((rone (codeOf q 2 x2) ws (wnew (codeOf q 2 x2) (callAt q 2 x2).args)).1) ∧ TSok q 3 (⟨x3, cu3⟩) ∧ RSok ((rone (codeOf q 2 x2) ws (wnew (codeOf q 2 x2) (callAt q 2 x2).args)).2) (⟨x3, cu3⟩) (w3) from ⟨by omega, (by rw [← hrun, prun_at (k := k) (by omega), hv, Int.toNat_natCast, pstep_tk (by omega) ((pb_begin hlt).trans (goW_alive haf hov))]; rfl), (by rw [← hwl, ← hwl2, haf.2]), (by simp only [List.length_append, List.length_singleton]; omega), hwr2, hs0, rs_ws hr0 hwr2, hs1, rs_ws hr1 hwr2, (ok_alive hlv (by omega) rfl), rs_some haf.1 ⟨hrg2.1, hwr2⟩ hcr, hs3, rs_ws hr3 hwr2⟩) (show sc.length - (k + 1) < sc.length - k from (by omega)) (by rcases cu0 with _ | ⟨D0, u0⟩ <;> rcases cu1 with _ | ⟨D1, u1⟩ <;> rcases cu3 with _ | ⟨D3, u3⟩ <;> rfl) ⟨rfl, rfl, rfl, rfl, rfl, rfl, rfl, rfl, trivial⟩ (by rcases cu0 with _ | ⟨D0, u0⟩ <;> rcases cu1 with _ | ⟨D1, u1⟩ <;> rcases cu3 with _ | ⟨D3, u3⟩ <;> (repeat' first | exact trivial | refine ⟨rfl, ?_⟩))
        exact absurd hc18 (by decide)
      refine ccell 3 2 (.ptr 11 0 0) rfl rfl (fun M ρ v h => op_ptr h) ?_
      obtain ⟨hrel, hrng, hcr⟩ := hr2.r C t rfl
      obtain ⟨hC, hpc, htl, hx1⟩ := hs2.cur C t rfl
      have hx1 : 1 ≤ x2 := hx1
      refine r1 ?_
      refine s1 48 65 1 rfl rfl rfl rfl rfl rfl trivial ?_
      refine s1 49 73 2 rfl rfl rfl rfl rfl rfl (by first | trivial | omega) ?_
      refine s1 50 81 3 rfl rfl rfl rfl rfl rfl (by first | trivial | omega) ?_
      refine sNilP 51 89 4 rfl rfl rfl rfl rfl rfl rfl rfl ?_
      refine e1 97 rfl ?_
      refine keep [2, 9, 10, 11, 12, 13, 14, 41, 42, 43, 51] rfl ?_
      refine q1 rfl (fun hc18 => ?_) (fun hc18 => ?_)
      · skip
        exact absurd hc18 (by decide)
      try simp only [cs, ne_eq] at hc18
      refine W_skip ?_
      refine tn ?_
      have haf := rel_step hC hrel hrng hpc htl
      have hlv : Live ws.length C t ws := ⟨hC, ⟨hpc, htl, rfl⟩⟩
      have hwl2 := ws_len hlv rfl
      have hrg2 := vstep_rng hcr hrng
      refine r1 ?_
      refine s1 97 97 1 rfl rfl rfl rfl rfl rfl trivial ?_
      refine s1 98 105 2 rfl rfl rfl rfl rfl rfl (by first | trivial | omega) ?_
      refine s1 99 113 3 rfl rfl rfl rfl rfl rfl (by first | trivial | omega) ?_
      refine s1 100 121 4 rfl rfl rfl rfl rfl rfl trivial ?_
      refine c1 (one_any C w2 ws hC (rel_pc hrel hpc) (by omega) (by rw [hrel.told]; exact htl) _ rfl) [11, 12, 13, 1] [11, 12, 13, 1, 129] 101 129 5 rfl rfl rfl rfl rfl rfl rfl rfl Tryd.func23 rfl rfl rfl rfl ⟨rfl, rfl, rfl, rfl, trivial⟩ rfl rfl ?_
      refine e1 137 rfl ?_
      refine keep [2, 9, 10, 11, 12, 13, 14, 41, 42, 43] rfl ?_
      refine cval 9 (.sl 1 0 (rone C ws w2).2.length) rfl (by rw [haf.2, hwl2]) ?_
      refine r1 ?_
      refine s1 102 137 1 rfl rfl rfl rfl rfl rfl trivial ?_
      refine s1 103 145 2 rfl rfl rfl rfl rfl rfl (by first | trivial | omega) ?_
      refine s1 104 153 3 rfl rfl rfl rfl rfl rfl (by first | trivial | omega) ?_
      refine s1 105 161 4 rfl rfl rfl rfl rfl rfl trivial ?_
      refine s1 106 169 5 rfl rfl rfl rfl rfl rfl trivial ?_
      refine s1 107 177 6 rfl rfl rfl rfl rfl rfl (by first | trivial | omega) ?_
      refine e1 185 rfl ?_
      refine keep [2, 9, 10, 11, 12, 13, 14, 41, 42, 43, 107] rfl ?_
      refine q1 rfl (fun hc25 => ?_) (fun hc25 => ?_)
      · skip
        try simp only [cs, ne_eq] at hc25
        have hov := hc25
        refine cfreeze 11 3 129 (rone C ws w2).1.told.length rfl rfl rfl (Nat.le_refl _) rfl ?_
        refine rd1 rfl ?_
        refine d1 108 185 1 rfl rfl rfl rfl rfl rfl trivial ?_
        refine d1 109 193 2 rfl rfl rfl rfl rfl rfl trivial ?_
        refine d1 110 201 3 rfl rfl rfl rfl rfl rfl trivial ?_
        refine d1 111 209 4 rfl rfl rfl rfl rfl rfl trivial ?_
        refine d1 112 217 5 rfl rfl rfl rfl rfl rfl (by first | trivial | omega) ?_
        refine d1 113 225 6 rfl rfl rfl rfl rfl rfl (by first | trivial | omega) ?_
        refine dA 114 233 7 rfl rfl rfl rfl rfl rfl rfl rfl rfl (by unfold inRange; dsimp only; omega) ?_
        refine d1 115 241 8 rfl rfl rfl rfl rfl rfl trivial ?_
        refine d1 116 249 9 rfl rfl rfl rfl rfl rfl (by first | trivial | omega) ?_
        refine d1 117 257 10 rfl rfl rfl rfl rfl rfl (by first | trivial | omega) ?_
        refine d1 118 265 11 rfl rfl rfl rfl rfl rfl trivial ?_
        refine d1 119 273 12 rfl rfl rfl rfl rfl rfl trivial ?_
        refine d1 120 281 13 rfl rfl rfl rfl rfl rfl (by first | trivial | omega) ?_
        refine d1 121 289 14 rfl rfl rfl rfl rfl rfl trivial ?_
        refine d1 122 297 15 rfl rfl rfl rfl rfl rfl (by first | trivial | omega) ?_
        refine d1 123 305 16 rfl rfl rfl rfl rfl rfl (by first | trivial | omega) ?_
        refine d1 124 313 17 rfl rfl rfl rfl rfl rfl trivial ?_
        refine d1 125 321 18 rfl rfl rfl rfl rfl rfl trivial ?_
        refine d1 126 329 19 rfl rfl rfl rfl rfl rfl (by first | trivial | omega) ?_
        refine d1 127 337 20 rfl rfl rfl rfl rfl rfl trivial ?_
        refine d1 128 345 21 rfl rfl rfl rfl rfl rfl trivial ?_
        refine d1 129 353 22 rfl rfl rfl rfl rfl rfl ⟨Nat.le_refl _, trivial, (by first | (show (out.length + 1) * 64 ≤ 140737488355328; omega) | (show ((out ++ [_]).length + 1) * 64 ≤ 140737488355328; rw [List.length_append, List.length_singleton]; omega)), (by first | (simp only [maxLen]; omega) | (simp only [maxLen, List.length_append, List.length_singleton]; omega))⟩ ?_
        refine d1 12 361 23 rfl rfl rfl rfl rfl rfl trivial ?_
        refine de1 369 rfl (by kernel_rfl) ?_
        refine keep [2, 9, 10, 11, 12, 14, 41, 42, 43] rfl ?_
        refine rowsc 353 (out ++ [(Ev.mk k ((2 : Nat) : Int) (x2 - 1) true (rone C ws w2).1.e (rone C ws w2).1.told)]).length (evF (out ++ [(Ev.mk k ((2 : Nat) : Int) (x2 - 1) true (rone C ws w2).1.e (rone C ws w2).1.told)])) rfl (by simp) (fun i c hi hc => ev_cat out _ _ _ _ _ _ i c hi hc) ?_
        refine cval 12 (.sl 353 0 (out ++ [(Ev.mk k ((2 : Nat) : Int) (x2 - 1) true (rone C ws w2).1.e (rone C ws w2).1.told)]).length) rfl (by simp) ?_
        refine r0 ?_
        refine s1 130 369 1 rfl rfl rfl rfl rfl rfl trivial ?_
        refine s1 131 377 2 rfl rfl rfl rfl rfl rfl (by first | trivial | omega) ?_
        refine s0 385 3 rfl rfl rfl rfl rfl (by first | trivial | omega) ?_
        refine e1 393 rfl ?_
        refine bn ?_
        refine tn ?_
        refine ccell 3 2 (.op 11 false) rfl rfl (fun M ρ v h => nil_op (show VR M ρ (.d (.val (.pointer none))) v from h)) ?_
        have hwr2 : ∀ i, inRange ((rone C ws w2).2.getD i 0) := fun i => by rw [haf.2]; exact hrg2.2 i
        refine r0 ?_
        refine sA 132 393 1 rfl rfl rfl rfl rfl rfl rfl rfl rfl (by unfold inRange; omega) ?_
        refine s1 43 401 2 rfl rfl rfl rfl rfl rfl trivial ?_
        refine e1 409 rfl ?_
        refine tn ?_
        exact again (((k + 1, (rone C ws w2).2, (out ++ [(Ev.mk k ((2 : Nat) : Int) (x2 - 1) true (rone C ws w2).1.e (rone C ws w2).1.told)]), ⟨x0, cu0⟩, ⟨x1, cu1⟩, ⟨x2, none⟩, ⟨x3, cu3⟩, w0, w1, w2, w3) : Nat × (List Int) × (List Ev) × TS × TS × TS × TS × Wkr × Wkr × Wkr × Wkr)) [0, 1, 353, 3, 4, 5, 6, 7, 8, 9, 10, 11, 12, 13, 14, 15, 16] (show (k + 1) ≤ sc.length ∧ prun q (sc.drop (k + 1)) (k + 1) ⟨((rone C ws w2).2), ((out ++ [(Ev.mk k ((2 : Nat) : Int) (x2 - 1) true (rone C ws w2).1.e (rone C ws w2).1.told)])), ([(⟨x0, cu0⟩), (⟨x1, cu1⟩), (⟨x2, none⟩), (⟨x3, cu3⟩)] : List TS).take q.ts.length⟩ = prun q sc 0 (pinit q) ∧ ((rone C ws w2).2).length = q.ws.length ∧ ((out ++ [(Ev.mk k ((2 : Nat) : Int) (x2 - 1) true (rone C ws w2).1.e (rone C ws w2).1.told)])).length ≤ 2 * (k + 1) ∧ (∀ i, inRange (((rone C ws w2).2).getD i 0)) ∧ TSok q 0 (⟨x0, cu0⟩) ∧ RSok ((rone C ws w2).2) (⟨x0, cu0⟩) (w0) ∧ TSok q 1 (⟨x1, cu1⟩) ∧ RSok ((rone C ws w2).2) (⟨x1, cu1⟩) (w1) ∧ TSok q 2 (⟨x2, none⟩) ∧ RSok ((rone C ws w2).2) (⟨x2, none⟩) (w2) ∧ TSok q 3 (⟨x3, cu3⟩) ∧ RSok ((rone C ws w2).2) (⟨x3, cu3⟩) (w3) from ⟨by omega, (by rw [← hrun, prun_at (k := k) (by omega), hv, Int.toNat_natCast, pstep_tk (by omega) (pb_go.trans (goW_over haf hov))]; rfl), (by rw [← hwl, ← hwl2, haf.2]), (by simp only [List.length_append, List.length_singleton]; omega), hwr2, hs0, rs_ws hr0 hwr2, hs1, rs_ws hr1 hwr2, (ok_over (by omega)), rs_none, hs3, rs_ws hr3 hwr2⟩) (show sc.length - (k + 1) < sc.length - k from (by omega)) (by rcases cu0 with _ | ⟨D0, u0⟩ <;> rcases cu1 with _ | ⟨D1, u1⟩ <;> rcases cu3 with _ | ⟨D3, u3⟩ <;> rfl) ⟨rfl, rfl, rfl, rfl, rfl, rfl, rfl, rfl, trivial⟩ (by rcases cu0 with _ | ⟨D0, u0⟩ <;> rcases cu1 with _ | ⟨D1, u1⟩ <;> rcases cu3 with _ | ⟨D3, u3⟩ <;> (repeat' first | exact trivial | refine ⟨rfl, ?_⟩))
      try simp only [cs, ne_eq] at hc25
      refine W_skip ?_
      refine bn ?_
      refine tn ?_
      have hov := hc25
      refine ccell 3 2 (.op 11 true) rfl rfl (fun M ρ v h => ptr_op h) ?_
      have hwr2 : ∀ i, inRange ((rone C ws w2).2.getD i 0) := fun i => by rw [haf.2]; exact hrg2.2 i
      refine r0 ?_
      refine sA 132 185 1 rfl rfl rfl rfl rfl rfl rfl rfl rfl (by unfold inRange; omega) ?_
      refine s1 43 193 2 rfl rfl rfl rfl rfl rfl trivial ?_
      refine e1 201 rfl ?_
      refine tn ?_
      exact again (((k + 1, (rone C ws w2).2, out, ⟨x0, cu0⟩, ⟨x1, cu1⟩, ⟨x2, some (C, (vstep C ws t).1)⟩, ⟨x3, cu3⟩, w0, w1, (rone C ws w2).1, w3) : Nat × (List Int) × (List Ev) × TS × TS × TS × TS × Wkr × Wkr × Wkr × Wkr)) [0, 1, 2, 3, 4, 5, 6, 7, 8, 9, 10, 11, 12, 129, 14, 15, 16] (show (k + 1) ≤ sc.length ∧ prun q (sc.drop (k + 1)) (k + 1) ⟨((rone C ws w2).2), (out), ([(⟨x0, cu0⟩), (⟨x1, cu1⟩), (⟨x2, some (C, (vstep C ws t).1)⟩), (⟨x3, cu3⟩)] : List TS).take q.ts.length⟩ = prun q sc 0 (pinit q) ∧ ((rone C ws w2).2).length = q.ws.length ∧ (out).length ≤ 2 * (k + 1) ∧ (∀ i, inRange (((rone C ws w2).2).getD i 0)) ∧ TSok q 0 (⟨x0, cu0⟩) ∧ RSok ((rone C ws w2).2) (⟨x0, cu0⟩) (w0) ∧ TSok q 1 (⟨x1, cu1⟩) ∧ RSok ((rone C ws w2).2) (⟨x1, cu1⟩) (w1) ∧ TSok q 2 (⟨x2, some (C, (vstep C ws t).1)⟩) ∧ RSok ((rone C ws w2).2) (⟨x2, some (C, (vstep C ws t).1)⟩) ((rone C ws w2).1) ∧ TSok q 3 (⟨x3, cu3⟩) ∧ RSok ((rone C ws w2).2) (⟨x3, cu3⟩) (w3) from ⟨by omega, (by rw [← hrun, prun_at (k := k) (by omega), hv, Int.toNat_natCast, pstep_tk (by omega) (pb_go.trans (goW_alive haf hov))]; rfl), (by rw [← hwl, ← hwl2, haf.2]), (by omega), hwr2, hs0, rs_ws hr0 hwr2, hs1, rs_ws hr1 hwr2, (ok_alive hlv (by omega) rfl), rs_some haf.1 ⟨hrg2.1, hwr2⟩ hcr, hs3, rs_ws hr3 hwr2⟩) (show sc.length - (k + 1) < sc.length - k from (by omega)) (by rcases cu0 with _ | ⟨D0, u0⟩ <;> rcases cu1 with _ | ⟨D1, u1⟩ <;> rcases cu3 with _ | ⟨D3, u3⟩ <;> rfl) ⟨rfl, rfl, rfl, rfl, rfl, rfl, rfl, rfl, trivial⟩ (by rcases cu0 with _ | ⟨D0, u0⟩ <;> rcases cu1 with _ | ⟨D1, u1⟩ <;> rcases cu3 with _ | ⟨D3, u3⟩ <;> (repeat' first | exact trivial | refine ⟨rfl, ?_⟩))
    refine cval 14 (SV.i ((3 : Nat) : Int)) rfl (by rw [hv]) ?_
    have hx20 : 0 ≤ x3 ∧ x3 ≤ ((q.ts.getD 3 []).length : Int) := hs3.nx
    rcases cu3 with _ | ⟨C, t⟩
    · skip
      refine ccell 3 3 (.d (.val (.pointer none))) rfl rfl (fun M ρ v h => op_nil h) ?_
      refine r1 ?_
      refine s1 48 65 1 rfl rfl rfl rfl rfl rfl trivial ?_
      refine s1 49 73 2 rfl rfl rfl rfl rfl rfl (by first | trivial | omega) ?_
      refine s1 50 81 3 rfl rfl rfl rfl rfl rfl (by first | trivial | omega) ?_
      refine sNilP 51 89 4 rfl rfl rfl rfl rfl rfl rfl rfl ?_
      refine e1 97 rfl ?_
      refine keep [2, 9, 10, 11, 12, 13, 14, 41, 42, 43, 51] rfl ?_
      refine q1 rfl (fun hc18 => ?_) (fun hc18 => ?_)
      · skip
        try simp only [cs, ne_eq] at hc18
        refine W_seq ?_
        refine rd1 rfl ?_
        refine d1 52 97 1 rfl rfl rfl rfl rfl rfl trivial ?_
        refine d1 53 105 2 rfl rfl rfl rfl rfl rfl (by first | trivial | omega) ?_
        refine d1 54 113 3 rfl rfl rfl rfl rfl rfl (by first | trivial | omega) ?_
        refine d1 55 121 4 rfl rfl rfl rfl rfl rfl trivial ?_
        refine d1 56 129 5 rfl rfl rfl rfl rfl rfl (by first | trivial | omega) ?_
        refine d1 57 137 6 rfl rfl rfl rfl rfl rfl trivial ?_
        refine d1 58 145 7 rfl rfl rfl rfl rfl rfl (by omega) ?_
        refine d1 59 153 8 rfl rfl rfl rfl rfl rfl (by first | trivial | omega) ?_
        refine d1 60 161 9 rfl rfl rfl rfl rfl rfl (by first | trivial | omega) ?_
        refine d1 61 169 10 rfl rfl rfl rfl rfl rfl (by first | trivial | omega) ?_
        refine de1 177 rfl (by kernel_rfl) ?_
        refine keep [2, 9, 10, 11, 12, 13, 14, 41, 42, 43, 61] rfl ?_
        refine q1 rfl (fun hc19 => ?_) (fun hc19 => ?_)
        · skip
          try simp only [cs, ne_eq] at hc19
          simp only [Int.toNat_natCast] at hc19
          have hlt : ¬ x3 < (q.ts.getD 3 []).length := (by omega)
          refine W_exit ?_
          refine tx ?_
          refine tx ?_
          refine bx ?_
          refine tn ?_
          refine ccell 3 3 (.op 14 false) rfl rfl (fun M ρ v h => nil_op (show VR M ρ (.d (.val (.pointer none))) v from h)) ?_
          refine r0 ?_
          refine sA 132 177 1 rfl rfl rfl rfl rfl rfl rfl rfl rfl (by unfold inRange; omega) ?_
          refine s1 43 185 2 rfl rfl rfl rfl rfl rfl trivial ?_
          refine e1 193 rfl ?_
          refine tn ?_
          exact again (((k + 1, ws, out, ⟨x0, cu0⟩, ⟨x1, cu1⟩, ⟨x2, cu2⟩, ⟨x3, none⟩, w0, w1, w2, w3) : Nat × (List Int) × (List Ev) × TS × TS × TS × TS × Wkr × Wkr × Wkr × Wkr)) [0, 1, 2, 3, 4, 5, 6, 7, 8, 9, 10, 11, 12, 13, 14, 15, 16] (show (k + 1) ≤ sc.length ∧ prun q (sc.drop (k + 1)) (k + 1) ⟨(ws), (out), ([(⟨x0, cu0⟩), (⟨x1, cu1⟩), (⟨x2, cu2⟩), (⟨x3, none⟩)] : List TS).take q.ts.length⟩ = prun q sc 0 (pinit q) ∧ (ws).length = q.ws.length ∧ (out).length ≤ 2 * (k + 1) ∧ (∀ i, inRange ((ws).getD i 0)) ∧ TSok q 0 (⟨x0, cu0⟩) ∧ RSok (ws) (⟨x0, cu0⟩) (w0) ∧ TSok q 1 (⟨x1, cu1⟩) ∧ RSok (ws) (⟨x1, cu1⟩) (w1) ∧ TSok q 2 (⟨x2, cu2⟩) ∧ RSok (ws) (⟨x2, cu2⟩) (w2) ∧ TSok q 3 (⟨x3, none⟩) ∧ RSok (ws) (⟨x3, none⟩) (w3) from ⟨by omega, (by rw [← hrun, prun_at (k := k) (by omega), hv, Int.toNat_natCast, pstep_tk (by omega) (pb_idle hlt)]; rfl), hwl, (by omega), hwr, hs0, hr0, hs1, hr1, hs2, hr2, hs3, hr3⟩) (show sc.length - (k + 1) < sc.length - k from (by omega)) (by rcases cu0 with _ | ⟨D0, u0⟩ <;> rcases cu1 with _ | ⟨D1, u1⟩ <;> rcases cu2 with _ | ⟨D2, u2⟩ <;> rfl) ⟨rfl, rfl, rfl, rfl, rfl, rfl, rfl, rfl, trivial⟩ (by rcases cu0 with _ | ⟨D0, u0⟩ <;> rcases cu1 with _ | ⟨D1, u1⟩ <;> rcases cu2 with _ | ⟨D2, u2⟩ <;> (repeat' first | exact trivial | refine ⟨rfl, ?_⟩))
        try simp only [cs, ne_eq] at hc19
        simp only [Int.toNat_natCast] at hc19
        have hlt : x3 < (q.ts.getD 3 []).length := (by omega)
        obtain ⟨hcc1, hcc2, hcc3, hcode⟩ := hcl 3 (by omega) x3 hx20.1 hlt
        have hc12 : 0 ≤ ((q.ts.getD 3 []).getD x3.toNat default).code ∧ ((q.ts.getD 3 []).getD x3.toNat default).code < q.cs.length := ⟨hcc1, hcc2⟩
        refine W_skip ?_
        refine tn ?_
        refine rd1 rfl ?_
        refine d1 62 177 1 rfl rfl rfl rfl rfl rfl trivial ?_
        refine d1 63 185 2 rfl rfl rfl rfl rfl rfl (by first | trivial | omega) ?_
        refine d1 64 193 3 rfl rfl rfl rfl rfl rfl trivial ?_
        refine d1 65 201 4 rfl rfl rfl rfl rfl rfl (by omega) ?_
        refine d1 66 209 5 rfl rfl rfl rfl rfl rfl (by first | trivial | omega) ?_
        refine d1 67 217 6 rfl rfl rfl rfl rfl rfl trivial ?_
        refine d1 68 225 7 rfl rfl rfl rfl rfl rfl (by first | trivial | omega) ?_
        refine d1 69 233 8 rfl rfl rfl rfl rfl rfl (by first | trivial | omega) ?_
        refine d1 70 241 9 rfl rfl rfl rfl rfl rfl (by first | trivial | omega | (simp only [Int.toNat_natCast]; omega)) ?_
        refine d1 71 249 10 rfl rfl rfl rfl rfl rfl (by first | trivial | omega | (simp only [Int.toNat_natCast]; omega)) ?_
        refine d1 15 257 11 rfl rfl rfl rfl rfl rfl trivial ?_
        refine d0 265 12 rfl rfl rfl rfl rfl (by first | trivial | omega) ?_
        refine de1 273 rfl (by kernel_rfl) ?_
        refine keep [2, 9, 10, 11, 12, 13, 14, 15, 41, 42, 43] rfl ?_
        refine rd1 rfl ?_
        refine d1 72 273 1 rfl rfl rfl rfl rfl rfl trivial ?_
        refine d1 73 281 2 rfl rfl rfl rfl rfl rfl trivial ?_
        refine d1 74 289 3 rfl rfl rfl rfl rfl rfl (by first | trivial | omega) ?_
        refine d1 75 297 4 rfl rfl rfl rfl rfl rfl trivial ?_
        refine d1 76 305 5 rfl rfl rfl rfl rfl rfl (by first | trivial | omega) ?_
        refine d1 77 313 6 rfl rfl rfl rfl rfl rfl (by first | trivial | omega | (simp only [Int.toNat_natCast]; omega)) ?_
        refine d1 78 321 7 rfl rfl rfl rfl rfl rfl (by first | trivial | omega | (simp only [Int.toNat_natCast]; omega)) ?_
        refine d1 79 329 8 rfl rfl rfl rfl rfl rfl trivial ?_
        refine d1 80 337 9 rfl rfl rfl rfl rfl rfl (by first | trivial | omega) ?_
        refine dc1 (worker_any (codeOf q 3 x3) (callAt q 3 x3).args (by omega)) [] [345, 346] 81 345 10 rfl rfl rfl rfl rfl rfl rfl rfl Tryd.func22 rfl rfl rfl rfl trivial rfl rfl ?_
        refine d1 82 353 11 rfl rfl rfl rfl rfl rfl (by first | trivial | omega) ?_
        refine d0 361 12 rfl rfl rfl rfl rfl (by first | trivial | omega) ?_
        refine de1 369 rfl (by kernel_rfl) ?_
        refine keep [2, 9, 10, 11, 12, 13, 14, 41, 42, 43] rfl ?_
        refine r1 ?_
        refine s1 83 369 1 rfl rfl rfl rfl rfl rfl trivial ?_
        refine s1 84 377 2 rfl rfl rfl rfl rfl rfl trivial ?_
        refine s1 85 385 3 rfl rfl rfl rfl rfl rfl trivial ?_
        refine s1 86 393 4 rfl rfl rfl rfl rfl rfl trivial ?_
        refine s1 87 401 5 rfl rfl rfl rfl rfl rfl (by first | trivial | omega) ?_
        refine s1 88 409 6 rfl rfl rfl rfl rfl rfl (by first | trivial | omega) ?_
        refine s1 89 417 7 rfl rfl rfl rfl rfl rfl trivial ?_
        refine s1 90 425 8 rfl rfl rfl rfl rfl rfl trivial ?_
        refine s1 91 433 9 rfl rfl rfl rfl rfl rfl ⟨Nat.le_refl _, trivial, (by show (out.length + 1) * 64 ≤ 140737488355328; omega), (by simp only [maxLen]; omega)⟩ ?_
        refine s1 12 441 10 rfl rfl rfl rfl rfl rfl trivial ?_
        refine e1 449 rfl ?_
        refine keep [2, 9, 10, 11, 12, 13, 14, 41, 42, 43] rfl ?_
        refine r0 ?_
        refine s1 92 449 1 rfl rfl rfl rfl rfl rfl trivial ?_
        refine s1 93 457 2 rfl rfl rfl rfl rfl rfl (by first | trivial | omega) ?_
        refine s1 94 465 3 rfl rfl rfl rfl rfl rfl (by first | trivial | omega) ?_
        refine sA 95 473 4 rfl rfl rfl rfl rfl rfl rfl rfl rfl (by unfold inRange; dsimp only; omega) ?_
        refine s1 96 481 5 rfl rfl rfl rfl rfl rfl (by first | trivial | omega) ?_
        refine s0 489 6 rfl rfl rfl rfl rfl (by first | trivial | omega) ?_
        refine e1 497 rfl ?_
        refine tn ?_
        refine cghostly 345 3 3 1 (intsF []) rfl rfl rfl ?_
        refine rowsw 433 (out ++ [(Ev.mk k ((3 : Nat) : Int) x3 false 0 [])]).length (evF (out ++ [(Ev.mk k ((3 : Nat) : Int) x3 false 0 [])])) rfl (by simp) (fun i c hi hc M v h => ev_cat0 out _ _ _ i c hi hc M v h) ?_
        refine cval 12 (.sl 433 0 (out ++ [(Ev.mk k ((3 : Nat) : Int) x3 false 0 [])]).length) rfl (by simp) ?_
        have hrel := new_rel (codeOf q 3 x3) (callAt q 3 x3).args
        have hrng : Rng ((vnew (codeOf q 3 x3) (callAt q 3 x3).args), ws) := new_rng (hmr.args 3 x3) hwr
        have hcr : CRng (codeOf q 3 x3) := hmr.cs _
        have hC := hcode
        have hvn := vnew_ok (C := (codeOf q 3 x3)) (l := (callAt q 3 x3).args) (ws := ws)
        have hpc := hvn.pc
        have htl := hvn.told
        have haf := rel_step hC hrel hrng hpc htl
        have hlv : Live ws.length (codeOf q 3 x3) (vnew (codeOf q 3 x3) (callAt q 3 x3).args) ws := ⟨hC, ⟨hpc, htl, rfl⟩⟩
        have hwl2 := ws_len hlv rfl
        have hrg2 := vstep_rng hcr hrng
        refine r1 ?_
        refine s1 97 505 1 rfl rfl rfl rfl rfl rfl trivial ?_
        refine s1 98 513 2 rfl rfl rfl rfl rfl rfl (by first | trivial | omega) ?_
        refine s1 99 521 3 rfl rfl rfl rfl rfl rfl (by first | trivial | omega) ?_
        refine s1 100 529 4 rfl rfl rfl rfl rfl rfl trivial ?_
        refine c1 (one_any (codeOf q 3 x3) (wnew (codeOf q 3 x3) (callAt q 3 x3).args) ws hC (rel_pc hrel hpc) (by omega) (by rw [hrel.told]; exact htl) _ rfl) [345, 346, 497, 1] [345, 346, 497, 1, 537] 101 537 5 rfl rfl rfl rfl rfl rfl rfl rfl Tryd.func23 rfl rfl rfl rfl ⟨rfl, rfl, rfl, rfl, trivial⟩ rfl rfl ?_
        refine e1 545 rfl ?_
        refine keep [2, 9, 10, 11, 12, 13, 14, 41, 42, 43] rfl ?_
        refine cval 9 (.sl 1 0 (rone (codeOf q 3 x3) ws (wnew (codeOf q 3 x3) (callAt q 3 x3).args)).2.length) rfl (by rw [haf.2, hwl2]) ?_
        refine r1 ?_
        refine s1 102 545 1 rfl rfl rfl rfl rfl rfl trivial ?_
        refine s1 103 553 2 rfl rfl rfl rfl rfl rfl (by first | trivial | omega) ?_
        refine s1 104 561 3 rfl rfl rfl rfl rfl rfl (by first | trivial | omega) ?_
        refine s1 105 569 4 rfl rfl rfl rfl rfl rfl trivial ?_
        refine s1 106 577 5 rfl rfl rfl rfl rfl rfl trivial ?_
        refine s1 107 585 6 rfl rfl rfl rfl rfl rfl (by first | trivial | omega) ?_
        refine e1 593 rfl ?_
        refine keep [2, 9, 10, 11, 12, 13, 14, 41, 42, 43, 107] rfl ?_
        refine q1 rfl (fun hc25 => ?_) (fun hc25 => ?_)
        · skip
          try simp only [cs, ne_eq] at hc25
          have hov := hc25
          refine cfreeze 345 3 537 (rone (codeOf q 3 x3) ws (wnew (codeOf q 3 x3) (callAt q 3 x3).args)).1.told.length rfl rfl rfl (Nat.le_refl _) rfl ?_
          refine rd1 rfl ?_
          refine d1 108 593 1 rfl rfl rfl rfl rfl rfl trivial ?_
          refine d1 109 601 2 rfl rfl rfl rfl rfl rfl trivial ?_
          refine d1 110 609 3 rfl rfl rfl rfl rfl rfl trivial ?_
          refine d1 111 617 4 rfl rfl rfl rfl rfl rfl trivial ?_
          refine d1 112 625 5 rfl rfl rfl rfl rfl rfl (by first | trivial | omega) ?_
          refine d1 113 633 6 rfl rfl rfl rfl rfl rfl (by first | trivial | omega) ?_
          refine dA 114 641 7 rfl rfl rfl rfl rfl rfl rfl rfl rfl (by unfold inRange; dsimp only; omega) ?_
          refine d1 115 649 8 rfl rfl rfl rfl rfl rfl trivial ?_
          refine d1 116 657 9 rfl rfl rfl rfl rfl rfl (by first | trivial | omega) ?_
          refine d1 117 665 10 rfl rfl rfl rfl rfl rfl (by first | trivial | omega) ?_
          refine d1 118 673 11 rfl rfl rfl rfl rfl rfl trivial ?_
          refine d1 119 681 12 rfl rfl rfl rfl rfl rfl trivial ?_
          refine d1 120 689 13 rfl rfl rfl rfl rfl rfl (by first | trivial | omega) ?_
          refine d1 121 697 14 rfl rfl rfl rfl rfl rfl trivial ?_
          refine d1 122 705 15 rfl rfl rfl rfl rfl rfl (by first | trivial | omega) ?_
          refine d1 123 713 16 rfl rfl rfl rfl rfl rfl (by first | trivial | omega) ?_
          refine d1 124 721 17 rfl rfl rfl rfl rfl rfl trivial ?_
          refine d1 125 729 18 rfl rfl rfl rfl rfl rfl trivial ?_
          refine d1 126 737 19 rfl rfl rfl rfl rfl rfl (by first | trivial | omega) ?_
          refine d1 127 745 20 rfl rfl rfl rfl rfl rfl trivial ?_
          refine d1 128 753 21 rfl rfl rfl rfl rfl rfl trivial ?_
          refine d1 129 761 22 rfl rfl rfl rfl rfl rfl ⟨Nat.le_refl _, trivial, (by first | (show (out.length + 1) * 64 ≤ 140737488355328; omega) | (show ((out ++ [_]).length + 1) * 64 ≤ 140737488355328; rw [List.length_append, List.length_singleton]; omega)), (by first | (simp only [maxLen]; omega) | (simp only [maxLen, List.length_append, List.length_singleton]; omega))⟩ ?_
          refine d1 12 769 23 rfl rfl rfl rfl rfl rfl trivial ?_
          refine de1 777 rfl (by kernel_rfl) ?_
          refine keep [2, 9, 10, 11, 12, 14, 41, 42, 43] rfl ?_
          refine rowsc 761 ((out ++ [(Ev.mk k ((3 : Nat) : Int) x3 false 0 [])]) ++ [(Ev.mk k ((3 : Nat) : Int) ((x3 + 1) - 1) true (rone (codeOf q 3 x3) ws (wnew (codeOf q 3 x3) (callAt q 3 x3).args)).1.e (rone (codeOf q 3 x3) ws (wnew (codeOf q 3 x3) (callAt q 3 x3).args)).1.told)]).length (evF ((out ++ [(Ev.mk k ((3 : Nat) : Int) x3 false 0 [])]) ++ [(Ev.mk k ((3 : Nat) : Int) ((x3 + 1) - 1) true (rone (codeOf q 3 x3) ws (wnew (codeOf q 3 x3) (callAt q 3 x3).args)).1.e (rone (codeOf q 3 x3) ws (wnew (codeOf q 3 x3) (callAt q 3 x3).args)).1.told)])) rfl (by simp) (fun i c hi hc => ev_cat (out ++ [(Ev.mk k ((3 : Nat) : Int) x3 false 0 [])]) _ _ _ _ _ _ i c hi hc) ?_
          refine cval 12 (.sl 761 0 ((out ++ [(Ev.mk k ((3 : Nat) : Int) x3 false 0 [])]) ++ [(Ev.mk k ((3 : Nat) : Int) ((x3 + 1) - 1) true (rone (codeOf q 3 x3) ws (wnew (codeOf q 3 x3) (callAt q 3 x3).args)).1.e (rone (codeOf q 3 x3) ws (wnew (codeOf q 3 x3) (callAt q 3 x3).args)).1.told)]).length) rfl (by simp) ?_
          refine r0 ?_
          refine s1 130 777 1 rfl rfl rfl rfl rfl rfl trivial ?_
          refine s1 131 785 2 rfl rfl rfl rfl rfl rfl (by first | trivial | omega) ?_
          refine s0 793 3 rfl rfl rfl rfl rfl (by first | trivial | omega) ?_
          refine e1 801 rfl ?_
          refine bn ?_
          refine tn ?_
          refine ccell 3 3 (.op 14 false) rfl rfl (fun M ρ v h => nil_op (show VR M ρ (.d (.val (.pointer none))) v from h)) ?_
          have hwr2 : ∀ i, inRange ((rone (codeOf q 3 x3) ws (wnew (codeOf q 3 x3) (callAt q 3 x3).args)).2.getD i 0) := fun i => by rw [haf.2]; exact hrg2.2 i
          refine r0 ?_
          refine sA 132 801 1 rfl rfl rfl rfl rfl rfl rfl rfl rfl (by unfold inRange; omega) ?_
          refine s1 43 809 2 rfl rfl rfl rfl rfl rfl trivial ?_
          refine e1 817 rfl ?_
          refine tn ?_
          exact again (((k + 1, (rone (codeOf q 3 x3) ws (wnew (codeOf q 3 x3) (callAt q 3 x3).args)).2, ((out ++ [(Ev.mk k ((3 : Nat) : Int) x3 false 0 [])]) ++ [(Ev.mk k ((3 : Nat) : Int) ((x3 + 1) - 1) true (rone (codeOf q 3 x3) ws (wnew (codeOf q 3 x3) (callAt q 3 x3).args)).1.e (rone (codeOf q 3 x3) ws (wnew (codeOf q 3 x3) (callAt q 3 x3).args)).1.told)]), ⟨x0, cu0⟩, ⟨x1, cu1⟩, ⟨x2, cu2⟩, ⟨(x3 + 1), none⟩, w0, w1, w2, w3) : Nat × (List Int) × (List Ev) × TS × TS × TS × TS × Wkr × Wkr × Wkr × Wkr)) [0, 1, 761, 3, 4, 5, 6, 7, 8, 9, 10, 11, 12, 13, 14, 15, 16] (show (k + 1) ≤ sc.length ∧ prun q (sc.drop (k + 1)) (k + 1) ⟨((rone (codeOf q 3 x3) ws (wnew (codeOf q 3 x3) (callAt q 3 x3).args)).2), (((out ++ [(Ev.mk k ((3 : Nat) : Int) x3 false 0 [])]) ++ [(Ev.mk k ((3 : Nat) : Int) ((x3 + 1) - 1) true (rone (codeOf q 3 x3) ws (wnew (codeOf q 3 x3) (callAt q 3 x3).args)).1.e (rone (codeOf q 3 x3) ws (wnew (codeOf q 3 x3) (callAt q 3 x3).args)).1.told)])), ([(⟨x0, cu0⟩), (⟨x1, cu1⟩), (⟨x2, cu2⟩), (⟨(x3 + 1), none⟩)] : List TS).take q.ts.length⟩ = prun q sc 0 (pinit q) ∧ ((rone (codeOf q 3 x3) ws (wnew (codeOf q 3 x3) (callAt q 3 x3).args)).2).length = q.ws.length ∧ (((out ++ [(Ev.mk k ((3 : Nat) : Int) x3 false 0 [])]) ++ [(Ev.mk k ((3 : Nat) : Int) ((x3 + 1) - 1) true (rone (codeOf q 3 x3) ws (wnew (codeOf q 3 x3) (callAt q 3 x3).args)).1.e (rone (codeOf q 3 x3) ws (wnew (codeOf q 3 x3) (callAt q 3 x3).args)).1.told)])).length ≤ 2 * (k + 1) ∧ (∀ i, inRange (((rone (codeOf q 3 x3) ws (wnew (codeOf q 3 x3) (callAt q 3 x3).args)).2).getD i 0)) ∧ TSok q 0 (⟨x0, cu0⟩) ∧ RSok ((rone (codeOf q 3 x3) ws (wnew (codeOf q 3 x3) (callAt q 3 x3).args)).2) (⟨x0, cu0⟩) (w0) ∧ TSok q 1 (⟨x1, cu1⟩) ∧ RSok ((rone (codeOf q 3 x3) ws (wnew (codeOf q 3 x3) (callAt q 3 x3).args)).2) (⟨x1, cu1⟩) (w1) ∧ TSok q 2 (⟨x2, cu2⟩) ∧ RSok ((rone (codeOf q 3 x3) ws (wnew (codeOf q 3 x3) (callAt q 3 x3).args)).2) (⟨x2, cu2⟩) (w2) ∧ TSok q 3 (⟨(x3 + 1), none⟩) ∧ RSok ((rone (codeOf q 3 x3) ws (wnew (codeOf q 3 x3) (callAt q 3 x3).args)).2) (⟨(x3 + 1), none⟩) (w3) from ⟨by omega, (by rw [← hrun, prun_at (k := k) (by omega), hv, Int.toNat_natCast, pstep_tk (by omega) ((pb_begin hlt).trans (goW_over haf hov))]; rfl), (by rw [← hwl, ← hwl2, haf.2]), (by simp only [List.length_append, List.length_singleton]; omega), hwr2, hs0, rs_ws hr0 hwr2, hs1, rs_ws hr1 hwr2, hs2, rs_ws hr2 hwr2, (ok_over (by omega)), rs_none⟩) (show sc.length - (k + 1) < sc.length - k from (by omega)) (by rcases cu0 with _ | ⟨D0, u0⟩ <;> rcases cu1 with _ | ⟨D1, u1⟩ <;> rcases cu2 with _ | ⟨D2, u2⟩ <;> rfl) ⟨rfl, rfl, rfl, rfl, rfl, rfl, rfl, rfl, trivial⟩ (by rcases cu0 with _ | ⟨D0, u0⟩ <;> rcases cu1 with _ | ⟨D1, u1⟩ <;> rcases cu2 with _ | ⟨D2, u2⟩ <;> (repeat' first | exact trivial | refine ⟨rfl, ?_⟩))
        try simp only [cs, ne_eq] at hc25
        refine W_skip ?_
        refine bn ?_
        refine tn ?_
        have hov := hc25
        refine ccell 3 3 (.op 345 true) rfl rfl (fun M ρ v h => ptr_op h) ?_
        have hwr2 : ∀ i, inRange ((rone (codeOf q 3 x3) ws (wnew (codeOf q 3 x3) (callAt q 3 x3).args)).2.getD i 0) := fun i => by rw [haf.2]; exact hrg2.2 i
        refine r0 ?_
        refine sA 132 593 1 rfl rfl rfl rfl rfl rfl rfl rfl rfl (by unfold inRange; omega) ?_
        refine s1 43 601 2 rfl rfl rfl rfl rfl rfl trivial ?_
        refine e1 609 rfl ?_
        refine tn ?_
        exact again (((k + 1, (rone (codeOf q 3 x3) ws (wnew (codeOf q 3 x3) (callAt q 3 x3).args)).2, (out ++ [(Ev.mk k ((3 : Nat) : Int) x3 false 0 [])]), ⟨x0, cu0⟩, ⟨x1, cu1⟩, ⟨x2, cu2⟩, ⟨(x3 + 1), some ((codeOf q 3 x3), (vstep (codeOf q 3 x3) ws (vnew (codeOf q 3 x3) (callAt q 3 x3).args)).1)⟩, w0, w1, w2, (rone (codeOf q 3 x3) ws (wnew (codeOf q 3 x3) (callAt q 3 x3).args)).1) : Nat × (List Int) × (List Ev) × TS × TS × TS × TS × Wkr × Wkr × Wkr × Wkr)) [0, 1, 433, 3, 4, 5, 6, 7, 8, 9, 10, 11, 12, 13, 345, 346, 537] (show (k + 1) ≤ sc.length ∧ prun q (sc.drop (k + 1)) (k + 1) ⟨((rone (codeOf q 3 x3) ws (wnew (codeOf q 3 x3) (callAt q 3 x3).args)).2), ((out ++ [(Ev.mk k ((3 : Nat) : Int) x3 false 0 [])])), ([(⟨x0, cu0⟩), (⟨x1, cu1⟩), (⟨x2, cu2⟩), (⟨(x3 + 1), some ((codeOf q 3 x3), (vstep (codeOf q 3 x3) ws (vnew (codeOf q 3 x3) (callAt q 3 x3).args)).1)⟩)] : List TS).take q.ts.length⟩ = prun q sc 0 (pinit q) ∧ ((rone (codeOf q 3 x3) ws (wnew (codeOf q 3 x3) (callAt q 3 x3).args)).2).length = q.ws.length ∧ ((out ++ [(Ev.mk k ((3 : Nat) : Int) x3 false 0 [])])).length ≤ 2 * (k + 1) ∧ (∀ i, inRange (((rone (codeOf q 3 x3) ws (wnew (codeOf q 3 x3) (callAt q 3 x3).args)).2).getD i 0)) ∧ TSok q 0 (⟨x0, cu0⟩) ∧ RSok ((rone (codeOf q 3 x3) ws (wnew (codeOf q 3 x3) (callAt q 3 x3).args)).2) (⟨x0, cu0⟩) (w0) ∧ TSok q 1 (⟨x1, cu1⟩) ∧ RSok ((rone (codeOf q 3 x3) ws (wnew (codeOf q 3 x3) (callAt q 3 x3).args)).2) (⟨x1, cu1⟩) (w1) ∧ TSok q 2 (⟨x2, cu2⟩) ∧ RSok ((rone (codeOf q 3 x3) ws (wnew (codeOf q 3 x3) (callAt q 3 x3).args)).2) (⟨x2, cu2⟩) (w2) ∧ TSok q 3 (⟨(x3 + 1), some ((codeOf q 3 x3), (vstep (codeOf q 3 x3) ws (vnew (codeOf q 3 x3) (callAt q 3 x3).args)).1)⟩) ∧ RSok ((rone (codeOf q 3 x3) ws (wnew (codeOf q 3 x3) (callAt q 3 x3).args)).2) (⟨(x3 + 1), some ((codeOf q 3 x3), (vstep (codeOf q 3 x3) ws (vnew (codeOf q 3 x3) (callAt q 3 x3).args)).1)⟩) ((rone (codeOf q 3 x3) ws (wnew (codeOf q 3 x3) (callAt q 3 x3).args)).1) from ⟨by omega, (by rw [← hrun, prun_at (k := k) (by omega), hv, Int.toNat_natCast, pstep_tk (by omega) ((pb_begin hlt).trans (goW_alive haf hov))]; rfl), (by rw [← hwl, ← hwl2, haf.2]), (by simp only [List.length_append, List.length_singleton]; omega), hwr2, hs0, rs_ws hr0 hwr2, hs1, rs_ws hr1 hwr2, hs2, rs_ws hr2 hwr2, (ok_alive hlv (by omega) rfl), rs_some haf.1 ⟨hrg2.1, hwr2⟩ hcr⟩) (show sc.length - (k + 1) < sc.length - k from (by omega)) (by rcases cu0 with _ | ⟨D0, u0⟩ <;> rcases cu1 with _ | ⟨D1, u1⟩ <;> rcases cu2 with _ | ⟨D2, u2⟩ <;> rfl) ⟨rfl, rfl, rfl, rfl, rfl, rfl, rfl, rfl, trivial⟩ (by rcases cu0 with _ | ⟨D0, u0⟩ <;> rcases cu1 with _ | ⟨D1, u1⟩ <;> rcases cu2 with _ | ⟨D2, u2⟩ <;> (repeat' first | exact trivial | refine ⟨rfl, ?_⟩))
      exact absurd hc18 (by decide)
    refine ccell 3 3 (.ptr 14 0 0) rfl rfl (fun M ρ v h => op_ptr h) ?_
    obtain ⟨hrel, hrng, hcr⟩ := hr3.r C t rfl
    obtain ⟨hC, hpc, htl, hx1⟩ := hs3.cur C t rfl
    have hx1 : 1 ≤ x3 := hx1
    refine r1 ?_
    refine s1 48 65 1 rfl rfl rfl rfl rfl rfl trivial ?_
    refine s1 49 73 2 rfl rfl rfl rfl rfl rfl (by first | trivial | omega) ?_
    refine s1 50 81 3 rfl rfl rfl rfl rfl rfl (by first | trivial | omega) ?_
    refine sNilP 51 89 4 rfl rfl rfl rfl rfl rfl rfl rfl ?_
    refine e1 97 rfl ?_
    refine keep [2, 9, 10, 11, 12, 13, 14, 41, 42, 43, 51] rfl ?_
    refine q1 rfl (fun hc18 => ?_) (fun hc18 => ?_)
    · skip
      exact absurd hc18 (by decide)
    try simp only [cs, ne_eq] at hc18
    refine W_skip ?_
    refine tn ?_
    have haf := rel_step hC hrel hrng hpc htl
    have hlv : Live ws.length C t ws := ⟨hC, ⟨hpc, htl, rfl⟩⟩
    have hwl2 := ws_len hlv rfl
    have hrg2 := vstep_rng hcr hrng
    refine r1 ?_
    refine s1 97 97 1 rfl rfl rfl rfl rfl rfl trivial ?_
    refine s1 98 105 2 rfl rfl rfl rfl rfl rfl (by first | trivial | omega) ?_
    refine s1 99 113 3 rfl rfl rfl rfl rfl rfl (by first | trivial | omega) ?_
    refine s1 100 121 4 rfl rfl rfl rfl rfl rfl trivial ?_
    refine c1 (one_any C w3 ws hC (rel_pc hrel hpc) (by omega) (by rw [hrel.told]; exact htl) _ rfl) [14, 15, 16, 1] [14, 15, 16, 1, 129] 101 129 5 rfl rfl rfl rfl rfl rfl rfl rfl Tryd.func23 rfl rfl rfl rfl ⟨rfl, rfl, rfl, rfl, trivial⟩ rfl rfl ?_
    refine e1 137 rfl ?_
    refine keep [2, 9, 10, 11, 12, 13, 14, 41, 42, 43] rfl ?_
    refine cval 9 (.sl 1 0 (rone C ws w3).2.length) rfl (by rw [haf.2, hwl2]) ?_
    refine r1 ?_
    refine s1 102 137 1 rfl rfl rfl rfl rfl rfl trivial ?_
    refine s1 103 145 2 rfl rfl rfl rfl rfl rfl (by first | trivial | omega) ?_
    refine s1 104 153 3 rfl rfl rfl rfl rfl rfl (by first | trivial | omega) ?_
    refine s1 105 161 4 rfl rfl rfl rfl rfl rfl trivial ?_
    refine s1 106 169 5 rfl rfl rfl rfl rfl rfl trivial ?_
    refine s1 107 177 6 rfl rfl rfl rfl rfl rfl (by first | trivial | omega) ?_
    refine e1 185 rfl ?_
    refine keep [2, 9, 10, 11, 12, 13, 14, 41, 42, 43, 107] rfl ?_
    refine q1 rfl (fun hc25 => ?_) (fun hc25 => ?_)
    · skip
      try simp only [cs, ne_eq] at hc25
      have hov := hc25
      refine cfreeze 14 3 129 (rone C ws w3).1.told.length rfl rfl rfl (Nat.le_refl _) rfl ?_
      refine rd1 rfl ?_
      refine d1 108 185 1 rfl rfl rfl rfl rfl rfl trivial ?_
      refine d1 109 193 2 rfl rfl rfl rfl rfl rfl trivial ?_
      refine d1 110 201 3 rfl rfl rfl rfl rfl rfl trivial ?_
      refine d1 111 209 4 rfl rfl rfl rfl rfl rfl trivial ?_
      refine d1 112 217 5 rfl rfl rfl rfl rfl rfl (by first | trivial | omega) ?_
      refine d1 113 225 6 rfl rfl rfl rfl rfl rfl (by first | trivial | omega) ?_
      refine dA 114 233 7 rfl rfl rfl rfl rfl rfl rfl rfl rfl (by unfold inRange; dsimp only; omega) ?_
      refine d1 115 241 8 rfl rfl rfl rfl rfl rfl trivial ?_
      refine d1 116 249 9 rfl rfl rfl rfl rfl rfl (by first | trivial | omega) ?_
      refine d1 117 257 10 rfl rfl rfl rfl rfl rfl (by first | trivial | omega) ?_
      refine d1 118 265 11 rfl rfl rfl rfl rfl rfl trivial ?_
      refine d1 119 273 12 rfl rfl rfl rfl rfl rfl trivial ?_
      refine d1 120 281 13 rfl rfl rfl rfl rfl rfl (by first | trivial | omega) ?_
      refine d1 121 289 14 rfl rfl rfl rfl rfl rfl trivial ?_
      refine d1 122 297 15 rfl rfl rfl rfl rfl rfl (by first | trivial | omega) ?_
      refine d1 123 305 16 rfl rfl rfl rfl rfl rfl (by first | trivial | omega) ?_
      refine d1 124 313 17 rfl rfl rfl rfl rfl rfl trivial ?_
      refine d1 125 321 18 rfl rfl rfl rfl rfl rfl trivial ?_
      refine d1 126 329 19 rfl rfl rfl rfl rfl rfl (by first | trivial | omega) ?_
      refine d1 127 337 20 rfl rfl rfl rfl rfl rfl trivial ?_
      refine d1 128 345 21 rfl rfl rfl rfl rfl rfl trivial ?_
      refine d1 129 353 22 rfl rfl rfl rfl rfl rfl ⟨Nat.le_refl _, trivial, (by first | (show (out.length + 1) * 64 ≤ 140737488355328; omega) | (show ((out ++ [_]).length + 1) * 64 ≤ 140737488355328; rw [List.length_append, List.length_singleton]; omega)), (by first | (simp only [maxLen]; omega) | (simp only [maxLen, List.length_append, List.length_singleton]; omega))⟩ ?_
      refine d1 12 361 23 rfl rfl rfl rfl rfl rfl trivial ?_
      refine de1 369 rfl (by kernel_rfl) ?_
      refine keep [2, 9, 10, 11, 12, 14, 41, 42, 43] rfl ?_
      refine rowsc 353 (out ++ [(Ev.mk k ((3 : Nat) : Int) (x3 - 1) true (rone C ws w3).1.e (rone C ws w3).1.told)]).length (evF (out ++ [(Ev.mk k ((3 : Nat) : Int) (x3 - 1) true (rone C ws w3).1.e (rone C ws w3).1.told)])) rfl (by simp) (fun i c hi hc => ev_cat out _ _ _ _ _ _ i c hi hc) ?_
      refine cval 12 (.sl 353 0 (out ++ [(Ev.mk k ((3 : Nat) : Int) (x3 - 1) true (rone C ws w3).1.e (rone C ws w3).1.told)]).length) rfl (by simp) ?_
      refine r0 ?_
      refine s1 130 369 1 rfl rfl rfl rfl rfl rfl trivial ?_
      refine s1 131 377 2 rfl rfl rfl rfl rfl rfl (by first | trivial | omega) ?_
      refine s0 385 3 rfl rfl rfl rfl rfl (by first | trivial | omega) ?_
      refine e1 393 rfl ?_
      refine bn ?_
      refine tn ?_
      refine ccell 3 3 (.op 14 false) rfl rfl (fun M ρ v h => nil_op (show VR M ρ (.d (.val (.pointer none))) v from h)) ?_
      have hwr2 : ∀ i, inRange ((rone C ws w3).2.getD i 0) := fun i => by rw [haf.2]; exact hrg2.2 i
      refine r0 ?_
      refine sA 132 393 1 rfl rfl rfl rfl rfl rfl rfl rfl rfl (by unfold inRange; omega) ?_
      refine s1 43 401 2 rfl rfl rfl rfl rfl rfl trivial ?_
      refine e1 409 rfl ?_
      refine tn ?_
      exact again (((k + 1, (rone C ws w3).2, (out ++ [(Ev.mk k ((3 : Nat) : Int) (x3 - 1) true (rone C ws w3).1.e (rone C ws w3).1.told)]), ⟨x0, cu0⟩, ⟨x1, cu1⟩, ⟨x2, cu2⟩, ⟨x3, none⟩, w0, w1, w2, w3) : Nat × (List Int) × (List Ev) × TS × TS × TS × TS × Wkr × Wkr × Wkr × Wkr)) [0, 1, 353, 3, 4, 5, 6, 7, 8, 9, 10, 11, 12, 13, 14, 15, 16] (show (k + 1) ≤ sc.length ∧ prun q (sc.drop (k + 1)) (k + 1) ⟨((rone C ws w3).2), ((out ++ [(Ev.mk k ((3 : Nat) : Int) (x3 - 1) true (rone C ws w3).1.e (rone C ws w3).1.told)])), ([(⟨x0, cu0⟩), (⟨x1, cu1⟩), (⟨x2, cu2⟩), (⟨x3, none⟩)] : List TS).take q.ts.length⟩ = prun q sc 0 (pinit q) ∧ ((rone C ws w3).2).length = q.ws.length ∧ ((out ++ [(Ev.mk k ((3 : Nat) : Int) (x3 - 1) true (rone C ws w3).1.e (rone C ws w3).1.told)])).length ≤ 2 * (k + 1) ∧ (∀ i, inRange (((rone C ws w3).2).getD i 0)) ∧ TSok q 0 (⟨x0, cu0⟩) ∧ RSok ((rone C ws w3).2) (⟨x0, cu0⟩) (w0) ∧ TSok q 1 (⟨x1, cu1⟩) ∧ RSok ((rone C ws w3).2) (⟨x1, cu1⟩) (w1) ∧ TSok q 2 (⟨x2, cu2⟩) ∧ RSok ((rone C ws w3).2) (⟨x2, cu2⟩) (w2) ∧ TSok q 3 (⟨x3, none⟩) ∧ RSok ((rone C ws w3).2) (⟨x3, none⟩) (w3) from ⟨by omega, (by rw [← hrun, prun_at (k := k) (by omega), hv, Int.toNat_natCast, pstep_tk (by omega) (pb_go.trans (goW_over haf hov))]; rfl), (by rw [← hwl, ← hwl2, haf.2]), (by simp only [List.length_append, List.length_singleton]; omega), hwr2, hs0, rs_ws hr0 hwr2, hs1, rs_ws hr1 hwr2, hs2, rs_ws hr2 hwr2, (ok_over (by omega)), rs_none⟩) (show sc.length - (k + 1) < sc.length - k from (by omega)) (by rcases cu0 with _ | ⟨D0, u0⟩ <;> rcases cu1 with _ | ⟨D1, u1⟩ <;> rcases cu2 with _ | ⟨D2, u2⟩ <;> rfl) ⟨rfl, rfl, rfl, rfl, rfl, rfl, rfl, rfl, trivial⟩ (by rcases cu0 with _ | ⟨D0, u0⟩ <;> rcases cu1 with _ | ⟨D1, u1⟩ <;> rcases cu2 with _ | ⟨D2, u2⟩ <;> (repeat' first | exact trivial | refine ⟨rfl, ?_⟩))
    try simp only [cs, ne_eq] at hc25
    refine W_skip ?_
    refine bn ?_
    refine tn ?_
    have hov := hc25
    refine ccell 3 3 (.op 14 true) rfl rfl (fun M ρ v h => ptr_op h) ?_
    have hwr2 : ∀ i, inRange ((rone C ws w3).2.getD i 0) := fun i => by rw [haf.2]; exact hrg2.2 i
    refine r0 ?_
    refine sA 132 185 1 rfl rfl rfl rfl rfl rfl rfl rfl rfl (by unfold inRange; omega) ?_
    refine s1 43 193 2 rfl rfl rfl rfl rfl rfl trivial ?_
    refine e1 201 rfl ?_
    refine tn ?_
    exact again (((k + 1, (rone C ws w3).2, out, ⟨x0, cu0⟩, ⟨x1, cu1⟩, ⟨x2, cu2⟩, ⟨x3, some (C, (vstep C ws t).1)⟩, w0, w1, w2, (rone C ws w3).1) : Nat × (List Int) × (List Ev) × TS × TS × TS × TS × Wkr × Wkr × Wkr × Wkr)) [0, 1, 2, 3, 4, 5, 6, 7, 8, 9, 10, 11, 12, 13, 14, 15, 129] (show (k + 1) ≤ sc.length ∧ prun q (sc.drop (k + 1)) (k + 1) ⟨((rone C ws w3).2), (out), ([(⟨x0, cu0⟩), (⟨x1, cu1⟩), (⟨x2, cu2⟩), (⟨x3, some (C, (vstep C ws t).1)⟩)] : List TS).take q.ts.length⟩ = prun q sc 0 (pinit q) ∧ ((rone C ws w3).2).length = q.ws.length ∧ (out).length ≤ 2 * (k + 1) ∧ (∀ i, inRange (((rone C ws w3).2).getD i 0)) ∧ TSok q 0 (⟨x0, cu0⟩) ∧ RSok ((rone C ws w3).2) (⟨x0, cu0⟩) (w0) ∧ TSok q 1 (⟨x1, cu1⟩) ∧ RSok ((rone C ws w3).2) (⟨x1, cu1⟩) (w1) ∧ TSok q 2 (⟨x2, cu2⟩) ∧ RSok ((rone C ws w3).2) (⟨x2, cu2⟩) (w2) ∧ TSok q 3 (⟨x3, some (C, (vstep C ws t).1)⟩) ∧ RSok ((rone C ws w3).2) (⟨x3, some (C, (vstep C ws t).1)⟩) ((rone C ws w3).1) from ⟨by omega, (by rw [← hrun, prun_at (k := k) (by omega), hv, Int.toNat_natCast, pstep_tk (by omega) (pb_go.trans (goW_alive haf hov))]; rfl), (by rw [← hwl, ← hwl2, haf.2]), (by omega), hwr2, hs0, rs_ws hr0 hwr2, hs1, rs_ws hr1 hwr2, hs2, rs_ws hr2 hwr2, (ok_alive hlv (by omega) rfl), rs_some haf.1 ⟨hrg2.1, hwr2⟩ hcr⟩) (show sc.length - (k + 1) < sc.length - k from (by omega)) (by rcases cu0 with _ | ⟨D0, u0⟩ <;> rcases cu1 with _ | ⟨D1, u1⟩ <;> rcases cu2 with _ | ⟨D2, u2⟩ <;> rfl) ⟨rfl, rfl, rfl, rfl, rfl, rfl, rfl, rfl, trivial⟩ (by rcases cu0 with _ | ⟨D0, u0⟩ <;> rcases cu1 with _ | ⟨D1, u1⟩ <;> rcases cu2 with _ | ⟨D2, u2⟩ <;> (repeat' first | exact trivial | refine ⟨rfl, ?_⟩))
  try simp only [cs, ne_eq] at hc16
  refine W_exit ?_
  refine tx ?_
  refine tx ?_
  refine bx ?_
  refine tn ?_
  refine r1 ?_
  refine s1 133 25 1 rfl rfl rfl rfl rfl rfl trivial ?_
  refine s1 134 33 2 rfl rfl rfl rfl rfl rfl trivial ?_
  refine s1 4 41 3 rfl rfl rfl rfl rfl rfl trivial ?_
  refine s1 5 49 4 rfl rfl rfl rfl rfl rfl trivial ?_
  refine s1 6 57 5 rfl rfl rfl rfl rfl rfl trivial ?_
  refine e1 65 rfl ?_
  refine keep [4, 5, 6] rfl ?_
  refine freeze 4 2 out.length rfl rfl (Nat.le_refl _) ?_
  refine freeze 5 1 ws.length rfl rfl (Nat.le_refl _) ?_
  refine W_ret ?_
  obtain rfl : k = sc.length := (by omega)
  have hr := hp0.symm.trans (pl_run hM (by omega) hB (hrun.symm.trans (by rw [List.drop_length, prun])))
  exact out3 4 5 6 (evV R0.out) (intsV R0.ws) (SV.i R0.e) (π := []) (hout := []) Tryd.results15 rfl rfl rfl (by rw [hr]; rfl) (by rw [hr]; rfl) (by rw [hr]; rfl) rfl rfl trivial ⟨rfl, rfl⟩

end Go.Proofs.YtdjphneoecebmaaDoor.Nice
