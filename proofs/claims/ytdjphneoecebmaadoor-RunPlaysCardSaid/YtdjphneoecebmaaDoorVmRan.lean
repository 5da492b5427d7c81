/- The document's run. -/
import Derived.Test.YtdjphneoecebmaaDoorVmRel
namespace Go.Proofs.YtdjphneoecebmaaDoor.Nice
open Go
set_option linter.unusedVariables false
set_option linter.unusedSimpArgs false
set_option maxRecDepth 100000
set_option maxHeartbeats 4000000
def argL (l : List Int) : Nat → List (Int × Int)
  | 0 => []
  | n + 1 => stL (argL l n) n (l.getD n 0)
theorem argL_lk (l : List Int) : ∀ n, n ≤ l.length → ∀ j : Int, 0 ≤ j → lk (argL l n) j = if j < n then l.getD j.toNat 0 else 0
  | 0, _, j, hj => by rw [if_neg (by omega)]; rfl
  | n + 1, h, j, hj => by
    show lk (stL (argL l n) n (l.getD n 0)) j = _
    rw [lk_st, argL_lk l n (by omega) j hj]
    by_cases e : j = n
    · subst e; rw [if_pos rfl, if_pos (by omega), Int.toNat_natCast]
    · rw [if_neg e]
      by_cases e2 : j < n
      · rw [if_pos e2, if_pos (by omega)]
      · rw [if_neg e2, if_neg (by omega)]
def wnew (C : List Ins) (l : List Int) : Wkr := ⟨argL l l.length, 0, [], 0, (C.length : Int) == 0⟩
theorem new_rel (C : List Ins) (l : List Int) : RelD (vnew C l) (wnew C l) := by
  refine ⟨rfl, rfl, rfl, fun _ => rfl, fun j h0 h1 => ?_⟩
  show lk (argL l l.length) j = l.getD j.toNat 0
  rw [argL_lk l _ (Nat.le_refl _) j h0]
  split
  · rfl
  · rw [List.getD_eq_getElem?_getD, List.getElem?_eq_none (by omega)]; rfl

theorem worker_any (C : List Ins) (l : List Int) (hl : l.length ≤ 8) : Spec Tryd.prog GV 22 [insV C, intsV l] [] (fun r ho => r = .ptr 0 0 0 ∧ ho = [some (.cells 58 6 [insV C, .map 1, SV.i 0, .d .nils, SV.i 0, SV.b ((C.length : Int) == 0)]), some (.map (mapL (argL l l.length)))]) := by
  refine start 30 0 Tryd.func22 rfl rfl rfl rfl ?_
  refine r1 ?_
  refine s1 4 0 1 rfl rfl rfl rfl rfl rfl trivial ?_
  refine e1 8 rfl ?_
  refine keep [0, 1] rfl ?_
  refine r1 ?_
  refine s1 8 8 1 rfl rfl rfl rfl rfl rfl trivial ?_
  refine s1 9 16 2 rfl rfl rfl rfl rfl rfl trivial ?_
  refine s1 10 24 3 rfl rfl rfl rfl rfl rfl trivial ?_
  refine s1 11 32 4 rfl rfl rfl rfl rfl rfl (by first | trivial | omega) ?_
  refine s1 12 40 5 rfl rfl rfl rfl rfl rfl (by first | trivial | omega) ?_
  refine s1 13 48 6 rfl rfl rfl rfl rfl rfl trivial ?_
  refine s1 14 56 7 rfl rfl rfl rfl rfl rfl trivial ?_
  refine s1 5 64 8 rfl rfl rfl rfl rfl rfl trivial ?_
  refine e1 72 rfl ?_
  refine keep [1, 5] rfl ?_
  refine W_seq ?_
  refine r1 ?_
  refine s1 15 72 1 rfl rfl rfl rfl rfl rfl trivial ?_
  refine s1 16 80 2 rfl rfl rfl rfl rfl rfl (by first | trivial | omega) ?_
  refine s1 17 88 3 rfl rfl rfl rfl rfl rfl trivial ?_
  refine e1 96 rfl ?_
  refine keep [5, 15, 16, 17] rfl ?_
  refine W_block ?_
  refine loop (α := Nat) 2 (fun n => [(5, .ptr 0 0 0), (15, intsV l), (16, SV.i l.length), (17, SV.i (n))]) (fun n => [some (.cells 58 6 [insV C, .map 1, SV.i 0, .d .nils, SV.i 0, SV.b ((C.length : Int) == 0)]), some (.map (mapL (argL l (n))))]) (fun n => (n) ≤ l.length) (fun n => l.length - (n)) (((0) : Nat)) [56, 16] (fun _ => rfl) (show (0) ≤ l.length from (Nat.zero_le _)) rfl ⟨rfl, rfl, rfl, rfl, trivial⟩ ⟨rfl, rfl, trivial⟩ (fun n hx => ?_)
  show W _ _ _ ⟨tOf [(5, .ptr 0 0 0), (15, intsV l), (16, SV.i l.length), (17, SV.i n)], hOf [some (.cells 58 6 [insV C, .map 1, SV.i 0, .d .nils, SV.i 0, SV.b ((C.length : Int) == 0)]), some (.map (mapL (argL l n)))], 2⟩
  have hx : n ≤ l.length := hx
  refine r1 ?_
  refine s1 18 2 1 rfl rfl rfl rfl rfl rfl (by first | trivial | omega) ?_
  refine e1 10 rfl ?_
  refine keep [5, 15, 16, 17, 18] rfl ?_
  refine W_seq ?_
  refine q1 rfl (fun hc3 => ?_) (fun hc3 => ?_)
  · skip
    try simp only [cs, ne_eq] at hc3
    refine W_skip ?_
    refine tn ?_
    refine W_seq ?_
    refine W_block ?_
    refine r1 ?_
    refine s1 19 10 1 rfl rfl rfl rfl rfl rfl trivial ?_
    refine s1 20 18 2 rfl rfl rfl rfl rfl rfl (by first | trivial | omega) ?_
    refine s1 21 26 3 rfl rfl rfl rfl rfl rfl (by first | trivial | omega) ?_
    refine s1 6 34 4 rfl rfl rfl rfl rfl rfl trivial ?_
    refine s1 7 42 5 rfl rfl rfl rfl rfl rfl trivial ?_
    refine e1 50 rfl ?_
    refine keep [5, 6, 7, 15, 16, 17] rfl ?_
    refine r0 ?_
    refine s1 22 50 1 rfl rfl rfl rfl rfl rfl trivial ?_
    refine s1 23 58 2 rfl rfl rfl rfl rfl rfl trivial ?_
    refine s1 24 66 3 rfl rfl rfl rfl rfl rfl trivial ?_
    refine s1 25 74 4 rfl rfl rfl rfl rfl rfl (by first | trivial | omega) ?_
    refine s1 26 82 5 rfl rfl rfl rfl rfl rfl trivial ?_
    refine s1 27 90 6 rfl rfl rfl rfl rfl rfl trivial ?_
    refine sMap ((mfind_L _ _)) 98 7 rfl rfl rfl rfl rfl rfl rfl rfl rfl rfl rfl rfl ?_
    refine e1 106 rfl ?_
    refine bn ?_
    refine tn ?_
    refine chval 1 _ rfl (congrArg Blk.map (mset_L _ _ _)) ?_
    refine r0 ?_
    refine sA 28 106 1 rfl rfl rfl rfl rfl rfl rfl rfl rfl (by unfold inRange; omega) ?_
    refine s1 17 114 2 rfl rfl rfl rfl rfl rfl trivial ?_
    refine e1 122 rfl ?_
    refine tn ?_
    exact again ((n + 1 : Nat)) [0, 1] (show (n + 1) ≤ l.length from (by omega)) (show l.length - (n + 1) < l.length - n from (by omega)) rfl ⟨rfl, rfl, rfl, rfl, trivial⟩ ⟨rfl, rfl, trivial⟩
  try simp only [cs, ne_eq] at hc3
  refine W_exit ?_
  refine tx ?_
  refine tx ?_
  refine bx ?_
  refine tn ?_
  refine r1 ?_
  refine s1 29 10 1 rfl rfl rfl rfl rfl rfl trivial ?_
  refine s1 4 18 2 rfl rfl rfl rfl rfl rfl trivial ?_
  refine e1 26 rfl ?_
  refine keep [4] rfl ?_
  refine W_ret ?_
  obtain rfl : n = l.length := (by omega)
  exact out1 4 (.ptr 0 0 0) (π := [0, 1]) (hout := [some (.cells 58 6 [insV C, .map 1, SV.i 0, .d .nils, SV.i 0, SV.b ((C.length : Int) == 0)]), some (.map (mapL (argL l l.length)))]) Tryd.results22 rfl rfl rfl rfl ⟨rfl, rfl, trivial⟩ ⟨rfl, rfl⟩

theorem rel_pc {n : Int} {t : Thr} {w : Wkr} (h : RelD t w) (hp : t.ov = false → 0 ≤ t.pc ∧ t.pc < n) : w.ov = false → 0 ≤ w.pc ∧ w.pc < n := fun e => by
  have := h.ov
  rw [h.pc (this.symm.trans e)]; exact hp (this.symm.trans e)
theorem new_rng {C : List Ins} {l ws : List Int} (hl : ∀ i, inRange (l.getD i 0)) (hw : ∀ i, inRange (ws.getD i 0)) : Rng (vnew C l, ws) := ⟨hl, hw⟩

theorem ran_any (C : List Ins) (l ws : List Int) (lim : Int) (hCl : C.length ≤ 9223372036854775807) (hll : l.length ≤ 9223372036854775807) (hwl : ws.length ≤ 9223372036854775807) (hcr : CRng C) (hlr : ∀ i, inRange (l.getD i 0)) (hwr : ∀ i, inRange (ws.getD i 0)) (q : VRes) (hp : vran C l ws lim = q) : Spec Tryd.prog GV 10 [insV C, intsV l, intsV ws, SV.i lim] [] (fun r ho => r = SV.tup [intsV q.told, intsV q.after, SV.i q.n, SV.i q.e] ∧ ho = []) := by
  refine start 73 0 Tryd.func10 rfl rfl rfl rfl ?_
  refine r1 ?_
  refine s1 8 0 1 rfl rfl rfl rfl rfl rfl trivial ?_
  refine s1 9 8 2 rfl rfl rfl rfl rfl rfl trivial ?_
  refine s1 10 16 3 rfl rfl rfl rfl rfl rfl trivial ?_
  refine s1 11 24 4 rfl rfl rfl rfl rfl rfl trivial ?_
  refine e1 32 rfl ?_
  refine keep [0, 1, 2, 3] rfl ?_
  refine W_seq ?_
  refine r1 ?_
  refine s1 15 32 1 rfl rfl rfl rfl rfl rfl trivial ?_
  refine c1 (codeMay_any C hCl) [] [] 16 40 2 rfl rfl rfl rfl rfl rfl rfl rfl Tryd.func8 rfl rfl rfl rfl trivial rfl rfl ?_
  refine s1 17 48 3 rfl rfl rfl rfl rfl rfl trivial ?_
  refine e1 56 rfl ?_
  refine keep [0, 1, 2, 3, 17] rfl ?_
  refine q1 rfl (fun hc1 => ?_) (fun hc1 => ?_)
  · skip
    try simp only [cs, ne_eq] at hc1
    refine r1 ?_
    refine s1 8 56 1 rfl rfl rfl rfl rfl rfl trivial ?_
    refine s1 9 64 2 rfl rfl rfl rfl rfl rfl trivial ?_
    refine s1 10 72 3 rfl rfl rfl rfl rfl rfl trivial ?_
    refine s1 11 80 4 rfl rfl rfl rfl rfl rfl trivial ?_
    refine e1 88 rfl ?_
    refine keep [8, 9, 10, 11] rfl ?_
    refine nilv 8 1 (intsF []) rfl ?_
    refine nilv 9 1 (intsF []) rfl ?_
    refine W_ret ?_
    refine tr ?_
    have hq := hp.symm.trans (vran_form hc1)
    exact outN (SV.tup [intsV q.told, intsV q.after, SV.i q.n, SV.i q.e]) (π := []) (hout := []) Tryd.results10 rfl (by trivial) (by rw [hq]; rfl) rfl rfl trivial ⟨rfl, rfl⟩
  try simp only [cs, ne_eq] at hc1
  refine W_skip ?_
  refine tn ?_
  refine W_seq ?_
  refine r1 ?_
  refine s1 18 56 1 rfl rfl rfl rfl rfl rfl trivial ?_
  refine s1 19 64 2 rfl rfl rfl rfl rfl rfl (by first | trivial | omega) ?_
  refine s1 20 72 3 rfl rfl rfl rfl rfl rfl (by first | trivial | omega) ?_
  refine s1 21 80 4 rfl rfl rfl rfl rfl rfl trivial ?_
  refine ask 21 rfl (fun hg3_21 => ?_) (fun hg3_21 => ?_)
  · skip
    try simp only [cs, ne_eq] at hg3_21
    refine g0 3 false 21 22 5 rfl rfl rfl rfl rfl rfl ?_
    refine g0 3 false 21 23 6 rfl rfl rfl rfl rfl rfl ?_
    refine g0 3 false 21 24 7 rfl rfl rfl rfl rfl rfl ?_
    refine s1 25 112 8 rfl rfl rfl rfl rfl rfl trivial ?_
    refine e1 120 rfl ?_
    refine keep [0, 1, 2, 3, 25] rfl ?_
    refine q1 rfl (fun hc3 => ?_) (fun hc3 => ?_)
    · skip
      try simp only [cs, ne_eq] at hc3
      refine r1 ?_
      refine s1 8 120 1 rfl rfl rfl rfl rfl rfl trivial ?_
      refine s1 9 128 2 rfl rfl rfl rfl rfl rfl trivial ?_
      refine s1 10 136 3 rfl rfl rfl rfl rfl rfl trivial ?_
      refine s1 11 144 4 rfl rfl rfl rfl rfl rfl trivial ?_
      refine e1 152 rfl ?_
      refine keep [8, 9, 10, 11] rfl ?_
      refine nilv 8 1 (intsF []) rfl ?_
      refine nilv 9 1 (intsF []) rfl ?_
      refine W_ret ?_
      refine tr ?_
      have hq := hp.symm.trans (vran_size hc1 (by omega))
      exact outN (SV.tup [intsV q.told, intsV q.after, SV.i q.n, SV.i q.e]) (π := []) (hout := []) Tryd.results10 rfl (by trivial) (by rw [hq]; rfl) rfl rfl trivial ⟨rfl, rfl⟩
    exact absurd hc3 (by decide)
  try simp only [cs, ne_eq] at hg3_21
  refine g1 3 false 21 22 5 rfl rfl rfl rfl rfl ?_
  refine s1 22 88 5 rfl rfl rfl rfl rfl rfl trivial ?_
  refine g1 3 false 21 23 6 rfl rfl rfl rfl rfl ?_
  refine s1 23 96 6 rfl rfl rfl rfl rfl rfl (by first | trivial | omega) ?_
  refine g1 3 false 21 24 7 rfl rfl rfl rfl rfl ?_
  refine s1 24 104 7 rfl rfl rfl rfl rfl rfl (by first | trivial | omega) ?_
  refine s1 25 112 8 rfl rfl rfl rfl rfl rfl trivial ?_
  refine e1 120 rfl ?_
  refine keep [0, 1, 2, 3, 25] rfl ?_
  refine q1 rfl (fun hc3 => ?_) (fun hc3 => ?_)
  · skip
    try simp only [cs, ne_eq] at hc3
    refine r1 ?_
    refine s1 8 120 1 rfl rfl rfl rfl rfl rfl trivial ?_
    refine s1 9 128 2 rfl rfl rfl rfl rfl rfl trivial ?_
    refine s1 10 136 3 rfl rfl rfl rfl rfl rfl trivial ?_
    refine s1 11 144 4 rfl rfl rfl rfl rfl rfl trivial ?_
    refine e1 152 rfl ?_
    refine keep [8, 9, 10, 11] rfl ?_
    refine nilv 8 1 (intsF []) rfl ?_
    refine nilv 9 1 (intsF []) rfl ?_
    refine W_ret ?_
    refine tr ?_
    have hq := hp.symm.trans (vran_size hc1 (by omega))
    exact outN (SV.tup [intsV q.told, intsV q.after, SV.i q.n, SV.i q.e]) (π := []) (hout := []) Tryd.results10 rfl (by trivial) (by rw [hq]; rfl) rfl rfl trivial ⟨rfl, rfl⟩
  try simp only [cs, ne_eq] at hc3
  refine W_skip ?_
  refine tn ?_
  refine W_seq ?_
  refine r1 ?_
  refine s1 26 120 1 rfl rfl rfl rfl rfl rfl trivial ?_
  refine s1 27 128 2 rfl rfl rfl rfl rfl rfl (by first | trivial | omega) ?_
  refine s1 28 136 3 rfl rfl rfl rfl rfl rfl trivial ?_
  refine ask 28 rfl (fun hg5_28 => ?_) (fun hg5_28 => ?_)
  · skip
    try simp only [cs, ne_eq] at hg5_28
    refine g0 2 false 28 29 4 rfl rfl rfl rfl rfl rfl ?_
    refine g0 2 false 28 30 5 rfl rfl rfl rfl rfl rfl ?_
    refine s1 31 160 6 rfl rfl rfl rfl rfl rfl trivial ?_
    refine e1 168 rfl ?_
    refine keep [0, 1, 2, 3, 31] rfl ?_
    refine q1 rfl (fun hc5 => ?_) (fun hc5 => ?_)
    · skip
      try simp only [cs, ne_eq] at hc5
      refine r1 ?_
      refine s1 8 168 1 rfl rfl rfl rfl rfl rfl trivial ?_
      refine s1 9 176 2 rfl rfl rfl rfl rfl rfl trivial ?_
      refine s1 10 184 3 rfl rfl rfl rfl rfl rfl trivial ?_
      refine s1 11 192 4 rfl rfl rfl rfl rfl rfl trivial ?_
      refine e1 200 rfl ?_
      refine keep [8, 9, 10, 11] rfl ?_
      refine nilv 8 1 (intsF []) rfl ?_
      refine nilv 9 1 (intsF []) rfl ?_
      refine W_ret ?_
      refine tr ?_
      have hq := hp.symm.trans (vran_range hc1 (by omega) (by omega))
      exact outN (SV.tup [intsV q.told, intsV q.after, SV.i q.n, SV.i q.e]) (π := []) (hout := []) Tryd.results10 rfl (by trivial) (by rw [hq]; rfl) rfl rfl trivial ⟨rfl, rfl⟩
    exact absurd hc5 (by decide)
  try simp only [cs, ne_eq] at hg5_28
  refine g1 2 false 28 29 4 rfl rfl rfl rfl rfl ?_
  refine s1 29 144 4 rfl rfl rfl rfl rfl rfl trivial ?_
  refine g1 2 false 28 30 5 rfl rfl rfl rfl rfl ?_
  refine s1 30 152 5 rfl rfl rfl rfl rfl rfl (by first | trivial | omega) ?_
  refine s1 31 160 6 rfl rfl rfl rfl rfl rfl trivial ?_
  refine e1 168 rfl ?_
  refine keep [0, 1, 2, 3, 31] rfl ?_
  refine q1 rfl (fun hc5 => ?_) (fun hc5 => ?_)
  · skip
    try simp only [cs, ne_eq] at hc5
    refine r1 ?_
    refine s1 8 168 1 rfl rfl rfl rfl rfl rfl trivial ?_
    refine s1 9 176 2 rfl rfl rfl rfl rfl rfl trivial ?_
    refine s1 10 184 3 rfl rfl rfl rfl rfl rfl trivial ?_
    refine s1 11 192 4 rfl rfl rfl rfl rfl rfl trivial ?_
    refine e1 200 rfl ?_
    refine keep [8, 9, 10, 11] rfl ?_
    refine nilv 8 1 (intsF []) rfl ?_
    refine nilv 9 1 (intsF []) rfl ?_
    refine W_ret ?_
    refine tr ?_
    have hq := hp.symm.trans (vran_range hc1 (by omega) (by omega))
    exact outN (SV.tup [intsV q.told, intsV q.after, SV.i q.n, SV.i q.e]) (π := []) (hout := []) Tryd.results10 rfl (by trivial) (by rw [hq]; rfl) rfl rfl trivial ⟨rfl, rfl⟩
  try simp only [cs, ne_eq] at hc5
  refine W_skip ?_
  refine tn ?_
  refine r1 ?_
  refine s1 32 168 1 rfl rfl rfl rfl rfl rfl trivial ?_
  refine s1 33 176 2 rfl rfl rfl rfl rfl rfl trivial ?_
  refine c1 (worker_any C l (by omega)) [] [184, 185] 34 184 3 rfl rfl rfl rfl rfl rfl rfl rfl Tryd.func22 rfl rfl rfl rfl trivial rfl rfl ?_
  refine s1 12 192 4 rfl rfl rfl rfl rfl rfl trivial ?_
  refine e1 200 rfl ?_
  refine keep [2, 3, 12] rfl ?_
  refine r1 ?_
  refine s1 35 200 1 rfl rfl rfl rfl rfl rfl trivial ?_
  refine s1 36 208 2 rfl rfl rfl rfl rfl rfl ⟨trivial, (by show ws.length * 8 ≤ 140737488355328; omega), (by simp only [maxLen]; omega)⟩ ?_
  refine s1 13 216 3 rfl rfl rfl rfl rfl rfl trivial ?_
  refine e1 224 rfl ?_
  refine keep [3, 12, 13] rfl ?_
  refine r1 ?_
  refine s1 14 224 1 rfl rfl rfl rfl rfl rfl trivial ?_
  refine e1 232 rfl ?_
  refine keep [3, 12, 13, 14] rfl ?_
  refine W_seq ?_
  refine W_block ?_
  have hC := hc1
  refine cghostly 184 3 3 1 (intsF []) rfl rfl rfl ?_
  refine loop (α := Nat × (Thr × List Int) × Wkr) 4 (fun z => [(3, SV.i lim), (12, .ptr 0 0 0), (13, .sl 3 0 (z.2.1).2.length), (14, SV.i (z.1))]) (fun z => [some (wkrB 2 C (z.2.2)), some (.map (mapL (z.2.2).L)), some (intsB (z.2.2).told), some (intsB (z.2.1).2)]) (fun z => ((z.1) : Int) ≤ lim ∧ ThrOk C ws.length (z.2.1) ∧ RelD (z.2.1).1 (z.2.2) ∧ Rng (z.2.1) ∧ vrun C lim.toNat (vnew C l, ws) = ((vrun C (lim.toNat - (z.1)) (z.2.1)).1 + (z.1), (vrun C (lim.toNat - (z.1)) (z.2.1)).2)) (fun z => lim.toNat - (z.1)) (((0, (vnew C l, ws), wnew C l) : Nat × (Thr × List Int) × Wkr)) [184, 185, 232, 208] (fun _ => rfl) (show ((0) : Int) ≤ lim ∧ ThrOk C ws.length ((vnew C l, ws)) ∧ RelD ((vnew C l, ws)).1 (wnew C l) ∧ Rng ((vnew C l, ws)) ∧ vrun C lim.toNat (vnew C l, ws) = ((vrun C (lim.toNat - (0)) ((vnew C l, ws))).1 + (0), (vrun C (lim.toNat - (0)) ((vnew C l, ws))).2) from ⟨by omega, vnew_ok, new_rel C l, new_rng hlr hwr, rfl⟩) rfl ⟨rfl, rfl, rfl, rfl, trivial⟩ ⟨rfl, rfl, rfl, rfl, trivial⟩ (fun z hx => ?_)
  obtain ⟨k, s, w⟩ := z
  show W _ _ _ ⟨tOf [(3, SV.i lim), (12, .ptr 0 0 0), (13, .sl 3 0 s.2.length), (14, SV.i k)], hOf [some (wkrB 2 C w), some (.map (mapL w.L)), some (intsB w.told), some (intsB s.2)], 4⟩
  have hx : (k : Int) ≤ lim ∧ ThrOk C ws.length s ∧ RelD s.1 w ∧ Rng s ∧ vrun C lim.toNat (vnew C l, ws) = ((vrun C (lim.toNat - k) s).1 + k, (vrun C (lim.toNat - k) s).2) := hx
  obtain ⟨hk, hok, hrel, hrng, hrun⟩ := hx
  refine W_seq ?_
  refine r1 ?_
  refine s1 37 4 1 rfl rfl rfl rfl rfl rfl trivial ?_
  refine s1 38 12 2 rfl rfl rfl rfl rfl rfl trivial ?_
  refine s1 39 20 3 rfl rfl rfl rfl rfl rfl (by first | trivial | omega) ?_
  refine s1 40 28 4 rfl rfl rfl rfl rfl rfl trivial ?_
  refine ask 40 rfl (fun hg10_40 => ?_) (fun hg10_40 => ?_)
  · skip
    try simp only [cs, ne_eq] at hg10_40
    refine g1 3 true 40 41 5 rfl rfl rfl rfl rfl ?_
    refine s1 41 36 5 rfl rfl rfl rfl rfl rfl trivial ?_
    refine g1 3 true 40 42 6 rfl rfl rfl rfl rfl ?_
    refine s1 42 44 6 rfl rfl rfl rfl rfl rfl trivial ?_
    refine g1 3 true 40 43 7 rfl rfl rfl rfl rfl ?_
    refine s1 43 52 7 rfl rfl rfl rfl rfl rfl trivial ?_
    refine g1 3 true 40 44 8 rfl rfl rfl rfl rfl ?_
    refine s1 44 60 8 rfl rfl rfl rfl rfl rfl (by first | trivial | omega) ?_
    refine g1 3 true 40 45 9 rfl rfl rfl rfl rfl ?_
    refine s1 45 68 9 rfl rfl rfl rfl rfl rfl trivial ?_
    refine s1 46 76 10 rfl rfl rfl rfl rfl rfl trivial ?_
    refine e1 84 rfl ?_
    refine keep [3, 12, 13, 14, 46] rfl ?_
    refine q1 rfl (fun hc10 => ?_) (fun hc10 => ?_)
    · skip
      try simp only [cs, ne_eq] at hc10
      refine W_skip ?_
      refine tn ?_
      refine W_seq ?_
      refine W_block ?_
      refine r0 ?_
      refine s1 49 84 1 rfl rfl rfl rfl rfl rfl trivial ?_
      refine s1 50 92 2 rfl rfl rfl rfl rfl rfl trivial ?_
      refine c1 (one_any C w s.2 hC (rel_pc hrel hok.pc) (by rw [hok.ws]; omega) (by rw [hrel.told]; exact hok.told) _ rfl) [0, 1, 2, 3] [0, 1, 2, 3, 100] 51 100 3 rfl rfl rfl rfl rfl rfl rfl rfl Tryd.func23 rfl rfl rfl rfl ⟨rfl, rfl, rfl, rfl, trivial⟩ rfl rfl ?_
      refine e1 108 rfl ?_
      refine bn ?_
      refine tn ?_
      have haf := rel_step hC hrel hrng hok.pc hok.told
      have hok2 := vstep_ok hC hok
      refine cval 13 (.sl 3 0 (vstep C s.2 s.1).2.length) rfl (by rw [hok2.ws, hok.ws]) ?_
      refine chval 3 (intsB (vstep C s.2 s.1).2) rfl (by rw [← haf.2]; rfl) ?_
      refine r0 ?_
      refine s1 47 108 1 rfl rfl rfl rfl rfl rfl trivial ?_
      refine sA 48 116 2 rfl rfl rfl rfl rfl rfl rfl rfl rfl (by unfold inRange; omega) ?_
      refine s1 14 124 3 rfl rfl rfl rfl rfl rfl trivial ?_
      refine e1 132 rfl ?_
      refine tn ?_
      exact again (((k + 1, vstep C s.2 s.1, (rone C s.2 w).1) : Nat × (Thr × List Int) × Wkr)) [0, 1, 100, 3] (show ((k + 1) : Int) ≤ lim ∧ ThrOk C ws.length (vstep C s.2 s.1) ∧ RelD (vstep C s.2 s.1).1 ((rone C s.2 w).1) ∧ Rng (vstep C s.2 s.1) ∧ vrun C lim.toNat (vnew C l, ws) = ((vrun C (lim.toNat - (k + 1)) (vstep C s.2 s.1)).1 + (k + 1), (vrun C (lim.toNat - (k + 1)) (vstep C s.2 s.1)).2) from ⟨by omega, hok2, haf.1, vstep_rng hcr hrng, (by rw [hrun, vrun_go (hrel.ov.symm.trans hc10) (by omega), show lim.toNat - k - 1 = lim.toNat - (k + 1) by omega]; simp only [Nat.add_assoc, Nat.add_comm 1 k])⟩) (show lim.toNat - (k + 1) < lim.toNat - k from (by omega)) rfl ⟨rfl, rfl, rfl, rfl, trivial⟩ ⟨rfl, rfl, rfl, rfl, trivial⟩
    try simp only [cs, ne_eq] at hc10
    refine W_exit ?_
    refine tx ?_
    refine tx ?_
    refine bx ?_
    refine tn ?_
    refine W_seq ?_
    refine r1 ?_
    refine s1 52 84 1 rfl rfl rfl rfl rfl rfl trivial ?_
    refine s1 53 92 2 rfl rfl rfl rfl rfl rfl trivial ?_
    refine s1 54 100 3 rfl rfl rfl rfl rfl rfl trivial ?_
    refine s1 55 108 4 rfl rfl rfl rfl rfl rfl (by first | trivial | omega) ?_
    refine s1 56 116 5 rfl rfl rfl rfl rfl rfl trivial ?_
    refine e1 124 rfl ?_
    refine keep [12, 13, 14, 56] rfl ?_
    refine q1 rfl (fun hc13 => ?_) (fun hc13 => ?_)
    · skip
      try simp only [cs, ne_eq] at hc13
      refine r1 ?_
      refine s1 57 124 1 rfl rfl rfl rfl rfl rfl trivial ?_
      refine s1 58 132 2 rfl rfl rfl rfl rfl rfl trivial ?_
      refine s1 59 140 3 rfl rfl rfl rfl rfl rfl trivial ?_
      refine s1 60 148 4 rfl rfl rfl rfl rfl rfl (by first | trivial | omega) ?_
      refine s1 61 156 5 rfl rfl rfl rfl rfl rfl trivial ?_
      refine s1 62 164 6 rfl rfl rfl rfl rfl rfl trivial ?_
      refine s1 8 172 7 rfl rfl rfl rfl rfl rfl trivial ?_
      refine s1 9 180 8 rfl rfl rfl rfl rfl rfl trivial ?_
      refine s1 10 188 9 rfl rfl rfl rfl rfl rfl trivial ?_
      refine s1 11 196 10 rfl rfl rfl rfl rfl rfl trivial ?_
      refine e1 204 rfl ?_
      refine keep [8, 9, 10, 11] rfl ?_
      refine freeze 8 2 w.told.length rfl rfl (Nat.le_refl _) ?_
      refine freeze 9 3 s.2.length rfl rfl (Nat.le_refl _) ?_
      refine cval 8 (intsV s.1.told) rfl (by rw [← hrel.told]; rfl) ?_
      refine W_ret ?_
      refine tr ?_
      have hov := hrel.ov
      have hfin : vresOf (vrun C lim.toNat (vnew C l, ws)) = ⟨s.1.told, s.2, k, 11⟩ := (by rw [hrun, vrun_over (by first | exact .inl (hov.symm.trans hc10) | (right; omega))]; unfold vresOf; simp only [Nat.zero_add]; rw [if_neg (by rw [← hov, hc13]; decide)])
      have hq := hp.symm.trans (vran_run hC (by omega) (by omega) hfin)
      exact outN (SV.tup [intsV q.told, intsV q.after, SV.i q.n, SV.i q.e]) (π := []) (hout := []) Tryd.results10 rfl (by trivial) (by rw [hq]; rfl) rfl rfl trivial ⟨rfl, rfl⟩
    try simp only [cs, ne_eq] at hc13
    refine W_skip ?_
    refine tn ?_
    refine rd1 rfl ?_
    refine d1 63 124 1 rfl rfl rfl rfl rfl rfl trivial ?_
    refine d1 64 132 2 rfl rfl rfl rfl rfl rfl trivial ?_
    refine d1 65 140 3 rfl rfl rfl rfl rfl rfl trivial ?_
    refine d1 66 148 4 rfl rfl rfl rfl rfl rfl (by first | trivial | omega) ?_
    refine d1 67 156 5 rfl rfl rfl rfl rfl rfl trivial ?_
    refine d1 68 164 6 rfl rfl rfl rfl rfl rfl trivial ?_
    refine d1 69 172 7 rfl rfl rfl rfl rfl rfl trivial ?_
    refine d1 70 180 8 rfl rfl rfl rfl rfl rfl trivial ?_
    refine d1 71 188 9 rfl rfl rfl rfl rfl rfl trivial ?_
    refine d1 72 196 10 rfl rfl rfl rfl rfl rfl (by first | trivial | omega) ?_
    refine d1 8 204 11 rfl rfl rfl rfl rfl rfl trivial ?_
    refine d1 9 212 12 rfl rfl rfl rfl rfl rfl trivial ?_
    refine d1 10 220 13 rfl rfl rfl rfl rfl rfl trivial ?_
    refine d1 11 228 14 rfl rfl rfl rfl rfl rfl trivial ?_
    refine de1 236 rfl (by kernel_rfl) ?_
    refine keep [8, 9, 10, 11] rfl ?_
    refine freeze 8 2 w.told.length rfl rfl (Nat.le_refl _) ?_
    refine freeze 9 3 s.2.length rfl rfl (Nat.le_refl _) ?_
    refine cval 8 (intsV s.1.told) rfl (by rw [← hrel.told]; rfl) ?_
    refine cval 11 (SV.i s.1.e) rfl (by rw [← hrel.e]) ?_
    refine W_ret ?_
    have hov := hrel.ov
    have hfin : vresOf (vrun C lim.toNat (vnew C l, ws)) = ⟨s.1.told, s.2, k, s.1.e⟩ := (by rw [hrun, vrun_over (by first | exact .inl (hov.symm.trans hc10) | (right; omega))]; unfold vresOf; simp only [Nat.zero_add]; rw [if_pos (hov.symm.trans hc13)])
    have hq := hp.symm.trans (vran_run hC (by omega) (by omega) hfin)
    exact outN (SV.tup [intsV q.told, intsV q.after, SV.i q.n, SV.i q.e]) (π := []) (hout := []) Tryd.results10 rfl (by trivial) (by rw [hq]; rfl) rfl rfl trivial ⟨rfl, rfl⟩
  try simp only [cs, ne_eq] at hg10_40
  refine g0 3 true 40 41 5 rfl rfl rfl rfl rfl rfl ?_
  refine g0 3 true 40 42 6 rfl rfl rfl rfl rfl rfl ?_
  refine g0 3 true 40 43 7 rfl rfl rfl rfl rfl rfl ?_
  refine g0 3 true 40 44 8 rfl rfl rfl rfl rfl rfl ?_
  refine g0 3 true 40 45 9 rfl rfl rfl rfl rfl rfl ?_
  refine s1 46 76 10 rfl rfl rfl rfl rfl rfl trivial ?_
  refine e1 84 rfl ?_
  refine keep [3, 12, 13, 14, 46] rfl ?_
  refine q1 rfl (fun hc10 => ?_) (fun hc10 => ?_)
  · skip
    exact absurd hc10 (by decide)
  try simp only [cs, ne_eq] at hc10
  refine W_exit ?_
  refine tx ?_
  refine tx ?_
  refine bx ?_
  refine tn ?_
  refine W_seq ?_
  refine r1 ?_
  refine s1 52 84 1 rfl rfl rfl rfl rfl rfl trivial ?_
  refine s1 53 92 2 rfl rfl rfl rfl rfl rfl trivial ?_
  refine s1 54 100 3 rfl rfl rfl rfl rfl rfl trivial ?_
  refine s1 55 108 4 rfl rfl rfl rfl rfl rfl (by first | trivial | omega) ?_
  refine s1 56 116 5 rfl rfl rfl rfl rfl rfl trivial ?_
  refine e1 124 rfl ?_
  refine keep [12, 13, 14, 56] rfl ?_
  refine q1 rfl (fun hc13 => ?_) (fun hc13 => ?_)
  · skip
    try simp only [cs, ne_eq] at hc13
    refine r1 ?_
    refine s1 57 124 1 rfl rfl rfl rfl rfl rfl trivial ?_
    refine s1 58 132 2 rfl rfl rfl rfl rfl rfl trivial ?_
    refine s1 59 140 3 rfl rfl rfl rfl rfl rfl trivial ?_
    refine s1 60 148 4 rfl rfl rfl rfl rfl rfl (by first | trivial | omega) ?_
    refine s1 61 156 5 rfl rfl rfl rfl rfl rfl trivial ?_
    refine s1 62 164 6 rfl rfl rfl rfl rfl rfl trivial ?_
    refine s1 8 172 7 rfl rfl rfl rfl rfl rfl trivial ?_
    refine s1 9 180 8 rfl rfl rfl rfl rfl rfl trivial ?_
    refine s1 10 188 9 rfl rfl rfl rfl rfl rfl trivial ?_
    refine s1 11 196 10 rfl rfl rfl rfl rfl rfl trivial ?_
    refine e1 204 rfl ?_
    refine keep [8, 9, 10, 11] rfl ?_
    refine freeze 8 2 w.told.length rfl rfl (Nat.le_refl _) ?_
    refine freeze 9 3 s.2.length rfl rfl (Nat.le_refl _) ?_
    refine cval 8 (intsV s.1.told) rfl (by rw [← hrel.told]; rfl) ?_
    refine W_ret ?_
    refine tr ?_
    have hov := hrel.ov
    have hfin : vresOf (vrun C lim.toNat (vnew C l, ws)) = ⟨s.1.told, s.2, k, 11⟩ := (by rw [hrun, vrun_over (by first | exact .inl (hov.symm.trans hc10) | (right; omega))]; unfold vresOf; simp only [Nat.zero_add]; rw [if_neg (by rw [← hov, hc13]; decide)])
    have hq := hp.symm.trans (vran_run hC (by omega) (by omega) hfin)
    exact outN (SV.tup [intsV q.told, intsV q.after, SV.i q.n, SV.i q.e]) (π := []) (hout := []) Tryd.results10 rfl (by trivial) (by rw [hq]; rfl) rfl rfl trivial ⟨rfl, rfl⟩
  try simp only [cs, ne_eq] at hc13
  refine W_skip ?_
  refine tn ?_
  refine rd1 rfl ?_
  refine d1 63 124 1 rfl rfl rfl rfl rfl rfl trivial ?_
  refine d1 64 132 2 rfl rfl rfl rfl rfl rfl trivial ?_
  refine d1 65 140 3 rfl rfl rfl rfl rfl rfl trivial ?_
  refine d1 66 148 4 rfl rfl rfl rfl rfl rfl (by first | trivial | omega) ?_
  refine d1 67 156 5 rfl rfl rfl rfl rfl rfl trivial ?_
  refine d1 68 164 6 rfl rfl rfl rfl rfl rfl trivial ?_
  refine d1 69 172 7 rfl rfl rfl rfl rfl rfl trivial ?_
  refine d1 70 180 8 rfl rfl rfl rfl rfl rfl trivial ?_
  refine d1 71 188 9 rfl rfl rfl rfl rfl rfl trivial ?_
  refine d1 72 196 10 rfl rfl rfl rfl rfl rfl (by first | trivial | omega) ?_
  refine d1 8 204 11 rfl rfl rfl rfl rfl rfl trivial ?_
  refine d1 9 212 12 rfl rfl rfl rfl rfl rfl trivial ?_
  refine d1 10 220 13 rfl rfl rfl rfl rfl rfl trivial ?_
  refine d1 11 228 14 rfl rfl rfl rfl rfl rfl trivial ?_
  refine de1 236 rfl (by kernel_rfl) ?_
  refine keep [8, 9, 10, 11] rfl ?_
  refine freeze 8 2 w.told.length rfl rfl (Nat.le_refl _) ?_
  refine freeze 9 3 s.2.length rfl rfl (Nat.le_refl _) ?_
  refine cval 8 (intsV s.1.told) rfl (by rw [← hrel.told]; rfl) ?_
  refine cval 11 (SV.i s.1.e) rfl (by rw [← hrel.e]) ?_
  refine W_ret ?_
  have hov := hrel.ov
  have hfin : vresOf (vrun C lim.toNat (vnew C l, ws)) = ⟨s.1.told, s.2, k, s.1.e⟩ := (by rw [hrun, vrun_over (by first | exact .inl (hov.symm.trans hc10) | (right; omega))]; unfold vresOf; simp only [Nat.zero_add]; rw [if_pos (hov.symm.trans hc13)])
  have hq := hp.symm.trans (vran_run hC (by omega) (by omega) hfin)
  exact outN (SV.tup [intsV q.told, intsV q.after, SV.i q.n, SV.i q.e]) (π := []) (hout := []) Tryd.results10 rfl (by trivial) (by rw [hq]; rfl) rfl rfl trivial ⟨rfl, rfl⟩

end Go.Proofs.YtdjphneoecebmaaDoor.Nice
