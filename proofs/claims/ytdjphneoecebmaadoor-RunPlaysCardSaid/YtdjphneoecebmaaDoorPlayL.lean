/- run.Play and the document's run, whatever many threads; the law RunPlays. -/
import Derived.Test.YtdjphneoecebmaaDoorPlay0
import Derived.Test.YtdjphneoecebmaaDoorPlay1
import Derived.Test.YtdjphneoecebmaaDoorPlay2
import Derived.Test.YtdjphneoecebmaaDoorPlay3
import Derived.Test.YtdjphneoecebmaaDoorPlay4
import Derived.Test.YtdjphneoecebmaaDoorPlayR
import Derived.Test.YtdjphneoecebmaaDoorVmRunL
namespace Go.Proofs.YtdjphneoecebmaaDoor.Nice
open Go
set_option linter.unusedVariables false
set_option linter.unusedSimpArgs false
set_option maxRecDepth 100000
set_option maxHeartbeats 4000000

theorem play_big (q : Mach) (hq : q.ok) (hb : 4 < q.ts.length) (sc : List Int) (hsc : sc.length ≤ 9223372036854775807) (R0 : PRes) (hp0 : played q sc = R0) : Spec Tryd.prog GV 14 [machS q, intsV sc] [] (fun r ho => r = SV.tup [evV R0.out, intsV R0.ws, SV.i R0.e] ∧ ho = []) := by
  refine start 161 0 Tryd.func14 rfl rfl rfl rfl ?_
  refine r1 ?_
  refine s1 2 0 1 rfl rfl rfl rfl rfl rfl trivial ?_
  refine s1 4 8 2 rfl rfl rfl rfl rfl rfl trivial ?_
  refine s1 5 16 3 rfl rfl rfl rfl rfl rfl trivial ?_
  refine s1 6 24 4 rfl rfl rfl rfl rfl rfl trivial ?_
  refine e1 32 rfl ?_
  refine keep [1, 2] rfl ?_
  refine W_seq ?_
  refine W_block ?_
  refine r1 ?_
  refine s1 17 32 1 rfl rfl rfl rfl rfl rfl (by first | trivial | omega | (simp only [List.length_map, List.length_append, List.length_cons, List.length_nil] at *; omega)) ?_
  refine c1 (mach_any q hq) [] [] 18 40 2 rfl rfl rfl rfl rfl rfl rfl rfl Tryd.func12 rfl rfl rfl rfl trivial rfl rfl ?_
  refine s1 19 48 3 rfl rfl rfl rfl rfl rfl trivial ?_
  refine s1 16 56 4 rfl rfl rfl rfl rfl rfl trivial ?_
  refine e1 64 rfl ?_
  refine keep [1, 2, 16] rfl ?_
  refine q1 rfl (fun hc1 => ?_) (fun hc1 => ?_)
  · skip
    try simp only [cs, ne_eq] at hc1
    refine r1 ?_
    refine s1 4 64 1 rfl rfl rfl rfl rfl rfl trivial ?_
    refine s1 5 72 2 rfl rfl rfl rfl rfl rfl trivial ?_
    refine s1 6 80 3 rfl rfl rfl rfl rfl rfl trivial ?_
    refine e1 88 rfl ?_
    refine keep [4, 5, 6] rfl ?_
    refine nilv 4 6 (evF []) rfl ?_
    refine nilv 5 1 (intsF []) rfl ?_
    refine W_ret ?_
    refine br ?_
    refine tr ?_
    have hr := hp0.symm.trans (pl_form hc1)
    exact out3 4 5 6 (evV R0.out) (intsV R0.ws) (SV.i R0.e) (π := []) (hout := []) Tryd.results14 rfl rfl rfl (by rw [hr]; rfl) (by rw [hr]; rfl) (by rw [hr]; rfl) rfl rfl trivial ⟨rfl, rfl⟩
  exact absurd (mach_ws (q := q) (by simpa using hc1)).2 (by omega)

theorem play_any (q : Mach) (hq : q.ok) (sc : List Int) (hsc : sc.length ≤ 9223372036854775807) (R0 : PRes) (hp0 : played q sc = R0) : Spec Tryd.prog GV 14 [machS q, intsV sc] [] (fun r ho => r = SV.tup [evV R0.out, intsV R0.ws, SV.i R0.e] ∧ ho = []) := by
  rcases (show q.ts.length = 0 ∨ q.ts.length = 1 ∨ q.ts.length = 2 ∨ q.ts.length = 3 ∨ q.ts.length = 4 ∨ 4 < q.ts.length from by omega) with h | h | h | h | h | h
  · exact play_0 q hq h sc hsc R0 hp0
  · exact play_1 q hq h sc hsc R0 hp0
  · exact play_2 q hq h sc hsc R0 hp0
  · exact play_3 q hq h sc hsc R0 hp0
  · exact play_4 q hq h sc hsc R0 hp0
  · exact play_big q hq h sc hsc R0 hp0
structure PSok (q : Mach) (k : Nat) (s : PS) : Prop where
  ws : s.ws.length ≤ 200
  ts : ∀ j, TSok q j (s.ts.getD j ⟨0, none⟩)
  out : ∀ e, e ∈ s.out → e.told.length ≤ 200
  n : s.out.length ≤ 2 * k
theorem pgo_ok {q : Mach} {j : Nat} {step nx : Int} {C : List Ins} {t : Thr} {ws : List Int} {out : List Ev} (hl : Live ws.length C t ws) (hw : ws.length ≤ 200) (h0 : 1 ≤ nx ∧ nx ≤ (q.ts.getD j []).length) (ho : ∀ e, e ∈ out → e.told.length ≤ 200) :
    TSok q j (pgo j step nx C t ws out).1 ∧ (pgo j step nx C t ws out).2.1.length ≤ 200 ∧ (∀ e, e ∈ (pgo j step nx C t ws out).2.2 → e.told.length ≤ 200) ∧ (pgo j step nx C t ws out).2.2.length ≤ out.length + 1 := by
  have h1 := ws_len hl rfl
  have h2 := (vstep_ok hl.c hl.ok).told
  cases h : (vstep C ws t).1.ov with
  | false => rw [pgo_alive rfl h]; exact ⟨ok_alive hl h0 rfl, by show (vstep C ws t).2.length ≤ 200; omega, ho, Nat.le_succ _⟩
  | true =>
    rw [pgo_over rfl h]
    refine ⟨ok_over ⟨by omega, h0.2⟩, by show (vstep C ws t).2.length ≤ 200; omega, fun e he => ?_, by simp⟩
    rcases List.mem_append.1 he with he | he
    · exact ho e he
    · rw [List.mem_singleton.1 he]; exact h2
theorem pbody_ok {q : Mach} (hq : machB q = true) {j : Nat} (hj : j < q.ts.length) {step : Int} {s : TS} {ws : List Int} {out : List Ev} (hs : TSok q j s) (hw : ws.length ≤ 200) (ho : ∀ e, e ∈ out → e.told.length ≤ 200) :
    TSok q j (pbody q j step s ws out).1 ∧ (pbody q j step s ws out).2.1.length ≤ 200 ∧ (∀ e, e ∈ (pbody q j step s ws out).2.2 → e.told.length ≤ 200) ∧ (pbody q j step s ws out).2.2.length ≤ out.length + 2 := by
  obtain ⟨nx, cur⟩ := s
  have hnx := hs.nx
  cases cur with
  | none =>
    by_cases h : nx < (q.ts.getD j []).length
    · rw [pb_begin h]
      obtain ⟨_, _, _, hc⟩ := mach_calls hq hj nx hnx.1 h
      have := pgo_ok (q := q) (j := j) (step := step) (nx := nx + 1) (C := codeOf q j nx) (t := vnew (codeOf q j nx) (callAt q j nx).args) (ws := ws) (out := out ++ [⟨step, j, nx, false, 0, []⟩]) ⟨hc, vnew_ok⟩ hw ⟨by have := hnx.1; simp only [] at this; omega, by omega⟩ (fun e he => by
        rcases List.mem_append.1 he with he | he
        · exact ho e he
        · rw [List.mem_singleton.1 he]; simp)
      exact ⟨this.1, this.2.1, this.2.2.1, by have := this.2.2.2; rw [List.length_append, List.length_singleton] at this; omega⟩
    · rw [pb_idle h]; exact ⟨hs, hw, ho, by show out.length ≤ _; omega⟩
  | some p =>
    obtain ⟨C, t⟩ := p
    have hl := live_of (ws := ws) hs
    rw [pb_go]
    have := pgo_ok (q := q) (j := j) (step := step) (nx := nx) (out := out) hl.1 hw ⟨hl.2, hnx.2⟩ ho
    exact ⟨this.1, this.2.1, this.2.2.1, by omega⟩
theorem prun_ok {q : Mach} (hq : machB q = true) : ∀ (sc : List Int) (k : Nat) (s : PS), (∀ v, v ∈ sc → bad q v = false) → PSok q k s → PSok q (k + sc.length) (prun q sc k s)
  | [], k, s, _, h => h
  | v :: r, k, s, hb, h => by
    unfold prun
    have hv := hb v (List.mem_cons_self ..)
    unfold bad at hv
    simp only [Bool.or_eq_false_iff, decide_eq_false_iff_not] at hv
    have hj : v.toNat < q.ts.length := by omega
    have := pbody_ok hq hj (step := (k : Int)) (h.ts v.toNat) h.ws h.out
    have ih := prun_ok hq r (k + 1) (pstep q v.toNat k s) (fun u hu => hb u (List.mem_cons_of_mem _ hu)) ⟨this.2.1, fun j => ?_, this.2.2.1, by have h1 := this.2.2.2; have h2 := h.n; show (pbody q v.toNat k (s.ts.getD v.toNat ⟨0, none⟩) s.ws s.out).2.2.length ≤ _; omega⟩
    · rw [List.length_cons, show k + (r.length + 1) = k + 1 + r.length by omega]; exact ih
    · show TSok q j ((s.ts.set v.toNat _).getD j ⟨0, none⟩)
      rw [List.getD_eq_getElem?_getD, List.getElem?_set]
      by_cases e : v.toNat = j
      · subst e
        rw [if_pos rfl]
        split
        · exact this.1
        · exact ok_init q _
      · rw [if_neg e, ← List.getD_eq_getElem?_getD]; exact h.ts j
theorem played_ok (q : Mach) (sc : List Int) : (played q sc).ws.length ≤ 200 ∧ (∀ e, e ∈ (played q sc).out → e.told.length ≤ 200) ∧ (played q sc).out.length ≤ 12000 := by
  unfold played
  split
  · simp
  · next h1 =>
    split
    · simp
    · next h2 =>
      split
      · simp
      · next h3 =>
        have hq : machB q = true := by cases e : machB q <;> simp_all
        have := prun_ok hq sc 0 (pinit q) (fun v hv => by
          have h4 : sc.any (bad q) = false := by cases e : sc.any (bad q) <;> simp_all
          rw [List.any_eq_false] at h4
          have := h4 v hv
          cases e : bad q v <;> simp_all) ⟨(mach_ws hq).1, fun j => ?_, (fun e he => by cases he), by show ([] : List Ev).length ≤ _; simp⟩
        · exact ⟨this.ws, this.out, by have := this.n; show (prun q sc 0 (pinit q)).out.length ≤ _; omega⟩
        · have : (pinit q).ts.getD j ⟨0, none⟩ = ⟨0, none⟩ := by
            unfold pinit
            rw [List.getD_eq_getElem?_getD, List.getElem?_map]
            cases q.ts[j]? <;> rfl
          rw [this]; exact ok_init q j
theorem ev_mem {l : List Ev} {n : Nat} (h : n < l.length) : l.getD n default ∈ l := by
  rw [show l.getD n default = l[n] from by simp [List.getD, h]]; exact List.getElem_mem h

theorem lawPlay_any (q : Mach) (hq : q.ok) (hmr : Mrng q) (sc : List Int) (hsc : sc.length ≤ 9223372036854775807) : Spec Tryd.prog GV 6 [machS q, intsV sc] [] (fun r _ => r = SV.b true) := by
  have hok := played_ok q sc
  refine start 99 0 Tryd.func6 rfl rfl rfl rfl ?_
  refine r1 ?_
  refine s1 2 0 1 rfl rfl rfl rfl rfl rfl trivial ?_
  refine s1 4 8 2 rfl rfl rfl rfl rfl rfl trivial ?_
  refine e1 16 rfl ?_
  refine keep [1, 2] rfl ?_
  refine r1 ?_
  refine s1 15 16 1 rfl rfl rfl rfl rfl rfl (by first | trivial | omega | (simp only [List.length_map, List.length_append, List.length_cons, List.length_nil] at *; omega)) ?_
  refine s1 16 24 2 rfl rfl rfl rfl rfl rfl trivial ?_
  refine c1 (play_any q hq sc hsc _ rfl) [] [] 17 32 3 rfl rfl rfl rfl rfl rfl rfl rfl Tryd.func14 rfl rfl rfl rfl trivial rfl rfl ?_
  refine s1 14 40 4 rfl rfl rfl rfl rfl rfl trivial ?_
  refine s1 18 48 5 rfl rfl rfl rfl rfl rfl trivial ?_
  refine s1 19 56 6 rfl rfl rfl rfl rfl rfl trivial ?_
  refine s1 20 64 7 rfl rfl rfl rfl rfl rfl trivial ?_
  refine s1 5 72 8 rfl rfl rfl rfl rfl rfl trivial ?_
  refine s1 6 80 9 rfl rfl rfl rfl rfl rfl trivial ?_
  refine s1 7 88 10 rfl rfl rfl rfl rfl rfl trivial ?_
  refine e1 96 rfl ?_
  refine keep [1, 2, 5, 6, 7] rfl ?_
  refine r1 ?_
  refine s1 22 96 1 rfl rfl rfl rfl rfl rfl (by first | trivial | omega | (simp only [List.length_map, List.length_append, List.length_cons, List.length_nil] at *; omega)) ?_
  refine s1 23 104 2 rfl rfl rfl rfl rfl rfl trivial ?_
  refine c1 (refplay q hq hmr sc hsc _ rfl) [] [] 24 112 3 rfl rfl rfl rfl rfl rfl rfl rfl Tryd.func15 rfl rfl rfl rfl trivial rfl rfl ?_
  refine s1 21 120 4 rfl rfl rfl rfl rfl rfl trivial ?_
  refine s1 25 128 5 rfl rfl rfl rfl rfl rfl trivial ?_
  refine s1 26 136 6 rfl rfl rfl rfl rfl rfl trivial ?_
  refine s1 27 144 7 rfl rfl rfl rfl rfl rfl trivial ?_
  refine s1 8 152 8 rfl rfl rfl rfl rfl rfl trivial ?_
  refine s1 9 160 9 rfl rfl rfl rfl rfl rfl trivial ?_
  refine s1 10 168 10 rfl rfl rfl rfl rfl rfl trivial ?_
  refine e1 176 rfl ?_
  refine keep [5, 6, 7, 8, 9, 10] rfl ?_
  refine W_seq ?_
  refine r1 ?_
  refine s1 28 176 1 rfl rfl rfl rfl rfl rfl trivial ?_
  refine s1 29 184 2 rfl rfl rfl rfl rfl rfl (by first | trivial | omega | (simp only [List.length_map, List.length_append, List.length_cons, List.length_nil] at *; omega)) ?_
  refine s1 30 192 3 rfl rfl rfl rfl rfl rfl trivial ?_
  refine s1 31 200 4 rfl rfl rfl rfl rfl rfl (by first | trivial | omega | (simp only [List.length_map, List.length_append, List.length_cons, List.length_nil] at *; omega)) ?_
  refine s1 32 208 5 rfl rfl rfl rfl rfl rfl (by first | trivial | omega | (simp only [List.length_map, List.length_append, List.length_cons, List.length_nil] at *; omega)) ?_
  refine val 32 (SV.b false) rfl (by simp) ?_
  refine s1 33 216 6 rfl rfl rfl rfl rfl rfl trivial ?_
  refine g1 5 false 33 34 7 rfl rfl rfl rfl rfl ?_
  refine s1 34 224 7 rfl rfl rfl rfl rfl rfl trivial ?_
  refine g1 5 false 33 35 8 rfl rfl rfl rfl rfl ?_
  refine s1 35 232 8 rfl rfl rfl rfl rfl rfl trivial ?_
  refine g1 5 false 33 36 9 rfl rfl rfl rfl rfl ?_
  refine c1 (same_self (played q sc).ws (by omega)) [] [] 36 240 9 rfl rfl rfl rfl rfl rfl rfl rfl Tryd.func11 rfl rfl rfl rfl trivial rfl rfl ?_
  refine g1 5 false 33 37 10 rfl rfl rfl rfl rfl ?_
  refine s1 37 248 10 rfl rfl rfl rfl rfl rfl trivial ?_
  refine s1 38 256 11 rfl rfl rfl rfl rfl rfl trivial ?_
  refine s1 39 264 12 rfl rfl rfl rfl rfl rfl trivial ?_
  refine g1 11 false 39 40 13 rfl rfl rfl rfl rfl ?_
  refine s1 40 272 13 rfl rfl rfl rfl rfl rfl trivial ?_
  refine g1 11 false 39 41 14 rfl rfl rfl rfl rfl ?_
  refine s1 41 280 14 rfl rfl rfl rfl rfl rfl trivial ?_
  refine g1 11 false 39 42 15 rfl rfl rfl rfl rfl ?_
  refine s1 42 288 15 rfl rfl rfl rfl rfl rfl (by first | trivial | omega | (simp only [List.length_map, List.length_append, List.length_cons, List.length_nil] at *; omega)) ?_
  refine val 42 (SV.b false) rfl (by simp) ?_
  refine s1 43 296 16 rfl rfl rfl rfl rfl rfl trivial ?_
  refine e1 304 rfl ?_
  refine keep [5, 8, 43] rfl ?_
  refine q1 rfl (fun hc3 => ?_) (fun hc3 => ?_)
  · skip
    exact absurd hc3 (by decide)
  try simp only [cs, ne_eq] at hc3
  refine W_skip ?_
  refine tn ?_
  refine W_seq ?_
  refine r1 ?_
  refine s1 11 304 1 rfl rfl rfl rfl rfl rfl trivial ?_
  refine e1 312 rfl ?_
  refine keep [5, 8, 11] rfl ?_
  refine W_block ?_
  refine loop (α := Nat) 0 (fun n => [(5, evV (played q sc).out), (8, evV (played q sc).out), (11, SV.i (n))]) (fun n => []) (fun n => (n) ≤ (played q sc).out.length) (fun n => (played q sc).out.length - (n)) (((0) : Nat)) [] (fun _ => rfl) (show (0) ≤ (played q sc).out.length from (Nat.zero_le _)) rfl ⟨rfl, rfl, rfl, trivial⟩ trivial (fun n hx => ?_)
  show W _ _ _ ⟨tOf [(5, evV (played q sc).out), (8, evV (played q sc).out), (11, SV.i n)], hOf [], 0⟩
  have hx : n ≤ (played q sc).out.length := hx
  refine W_seq ?_
  refine r1 ?_
  refine s1 44 0 1 rfl rfl rfl rfl rfl rfl trivial ?_
  refine s1 45 8 2 rfl rfl rfl rfl rfl rfl trivial ?_
  refine s1 46 16 3 rfl rfl rfl rfl rfl rfl (by first | trivial | omega | (simp only [List.length_map, List.length_append, List.length_cons, List.length_nil] at *; omega)) ?_
  refine s1 47 24 4 rfl rfl rfl rfl rfl rfl (by first | trivial | omega | (simp only [List.length_map, List.length_append, List.length_cons, List.length_nil] at *; omega)) ?_
  refine e1 32 rfl ?_
  refine keep [5, 8, 11, 47] rfl ?_
  refine q1 rfl (fun hc6 => ?_) (fun hc6 => ?_)
  · skip
    try simp only [cs, ne_eq] at hc6
    refine W_skip ?_
    refine tn ?_
    refine W_seq ?_
    refine W_block ?_
    have hn2 : n < (played q sc).out.length := (by omega)
    refine r1 ?_
    refine s1 50 32 1 rfl rfl rfl rfl rfl rfl trivial ?_
    refine s1 51 40 2 rfl rfl rfl rfl rfl rfl trivial ?_
    refine s1 52 48 3 rfl rfl rfl rfl rfl rfl (by omega) ?_
    refine s1 53 56 4 rfl rfl rfl rfl rfl rfl (by first | trivial | omega | (simp only [List.length_map, List.length_append, List.length_cons, List.length_nil] at *; omega)) ?_
    refine s1 12 64 5 rfl rfl rfl rfl rfl rfl trivial ?_
    refine s0 72 6 rfl rfl rfl rfl rfl (by first | trivial | omega | (simp only [List.length_map, List.length_append, List.length_cons, List.length_nil] at *; omega)) ?_
    refine e1 80 rfl ?_
    refine keep [5, 8, 11, 12] rfl ?_
    refine r1 ?_
    refine s1 54 80 1 rfl rfl rfl rfl rfl rfl trivial ?_
    refine s1 55 88 2 rfl rfl rfl rfl rfl rfl trivial ?_
    refine s1 56 96 3 rfl rfl rfl rfl rfl rfl (by omega) ?_
    refine s1 57 104 4 rfl rfl rfl rfl rfl rfl (by first | trivial | omega | (simp only [List.length_map, List.length_append, List.length_cons, List.length_nil] at *; omega)) ?_
    refine s1 13 112 5 rfl rfl rfl rfl rfl rfl trivial ?_
    refine s0 120 6 rfl rfl rfl rfl rfl (by first | trivial | omega | (simp only [List.length_map, List.length_append, List.length_cons, List.length_nil] at *; omega)) ?_
    refine e1 128 rfl ?_
    refine keep [5, 8, 11, 12, 13] rfl ?_
    refine r1 ?_
    refine s1 58 128 1 rfl rfl rfl rfl rfl rfl trivial ?_
    refine s1 59 136 2 rfl rfl rfl rfl rfl rfl (by first | trivial | omega | (simp only [List.length_map, List.length_append, List.length_cons, List.length_nil] at *; omega)) ?_
    refine s1 60 144 3 rfl rfl rfl rfl rfl rfl trivial ?_
    refine s1 61 152 4 rfl rfl rfl rfl rfl rfl (by first | trivial | omega | (simp only [List.length_map, List.length_append, List.length_cons, List.length_nil] at *; omega)) ?_
    refine s1 62 160 5 rfl rfl rfl rfl rfl rfl (by first | trivial | omega | (simp only [List.length_map, List.length_append, List.length_cons, List.length_nil] at *; omega)) ?_
    refine val 62 (SV.b false) rfl (by simp) ?_
    refine s1 63 168 6 rfl rfl rfl rfl rfl rfl trivial ?_
    refine g1 5 false 63 64 7 rfl rfl rfl rfl rfl ?_
    refine s1 64 176 7 rfl rfl rfl rfl rfl rfl trivial ?_
    refine g1 5 false 63 65 8 rfl rfl rfl rfl rfl ?_
    refine s1 65 184 8 rfl rfl rfl rfl rfl rfl (by first | trivial | omega | (simp only [List.length_map, List.length_append, List.length_cons, List.length_nil] at *; omega)) ?_
    refine g1 5 false 63 66 9 rfl rfl rfl rfl rfl ?_
    refine s1 66 192 9 rfl rfl rfl rfl rfl rfl trivial ?_
    refine g1 5 false 63 67 10 rfl rfl rfl rfl rfl ?_
    refine s1 67 200 10 rfl rfl rfl rfl rfl rfl (by first | trivial | omega | (simp only [List.length_map, List.length_append, List.length_cons, List.length_nil] at *; omega)) ?_
    refine g1 5 false 63 68 11 rfl rfl rfl rfl rfl ?_
    refine s1 68 208 11 rfl rfl rfl rfl rfl rfl (by first | trivial | omega | (simp only [List.length_map, List.length_append, List.length_cons, List.length_nil] at *; omega)) ?_
    refine val 68 (SV.b false) rfl (by simp) ?_
    refine s1 69 216 12 rfl rfl rfl rfl rfl rfl trivial ?_
    refine s1 70 224 13 rfl rfl rfl rfl rfl rfl trivial ?_
    refine g1 12 false 70 71 14 rfl rfl rfl rfl rfl ?_
    refine s1 71 232 14 rfl rfl rfl rfl rfl rfl trivial ?_
    refine g1 12 false 70 72 15 rfl rfl rfl rfl rfl ?_
    refine s1 72 240 15 rfl rfl rfl rfl rfl rfl (by first | trivial | omega | (simp only [List.length_map, List.length_append, List.length_cons, List.length_nil] at *; omega)) ?_
    refine g1 12 false 70 73 16 rfl rfl rfl rfl rfl ?_
    refine s1 73 248 16 rfl rfl rfl rfl rfl rfl trivial ?_
    refine g1 12 false 70 74 17 rfl rfl rfl rfl rfl ?_
    refine s1 74 256 17 rfl rfl rfl rfl rfl rfl (by first | trivial | omega | (simp only [List.length_map, List.length_append, List.length_cons, List.length_nil] at *; omega)) ?_
    refine g1 12 false 70 75 18 rfl rfl rfl rfl rfl ?_
    refine s1 75 264 18 rfl rfl rfl rfl rfl rfl (by first | trivial | omega | (simp only [List.length_map, List.length_append, List.length_cons, List.length_nil] at *; omega)) ?_
    refine val 75 (SV.b false) rfl (by simp) ?_
    refine s1 76 272 19 rfl rfl rfl rfl rfl rfl trivial ?_
    refine s1 77 280 20 rfl rfl rfl rfl rfl rfl trivial ?_
    refine g1 19 false 77 78 21 rfl rfl rfl rfl rfl ?_
    refine s1 78 288 21 rfl rfl rfl rfl rfl rfl trivial ?_
    refine g1 19 false 77 79 22 rfl rfl rfl rfl rfl ?_
    refine s1 79 296 22 rfl rfl rfl rfl rfl rfl (by first | trivial | omega | (simp only [List.length_map, List.length_append, List.length_cons, List.length_nil] at *; omega)) ?_
    refine g1 19 false 77 80 23 rfl rfl rfl rfl rfl ?_
    refine s1 80 304 23 rfl rfl rfl rfl rfl rfl trivial ?_
    refine g1 19 false 77 81 24 rfl rfl rfl rfl rfl ?_
    refine s1 81 312 24 rfl rfl rfl rfl rfl rfl (by first | trivial | omega | (simp only [List.length_map, List.length_append, List.length_cons, List.length_nil] at *; omega)) ?_
    refine g1 19 false 77 82 25 rfl rfl rfl rfl rfl ?_
    refine s1 82 320 25 rfl rfl rfl rfl rfl rfl (by first | trivial | omega | (simp only [List.length_map, List.length_append, List.length_cons, List.length_nil] at *; omega)) ?_
    refine val 82 (SV.b false) rfl (by simp) ?_
    refine s1 83 328 26 rfl rfl rfl rfl rfl rfl trivial ?_
    refine s1 84 336 27 rfl rfl rfl rfl rfl rfl trivial ?_
    refine g1 26 false 84 85 28 rfl rfl rfl rfl rfl ?_
    refine s1 85 344 28 rfl rfl rfl rfl rfl rfl trivial ?_
    refine g1 26 false 84 86 29 rfl rfl rfl rfl rfl ?_
    refine s1 86 352 29 rfl rfl rfl rfl rfl rfl (by first | trivial | omega | (simp only [List.length_map, List.length_append, List.length_cons, List.length_nil] at *; omega)) ?_
    refine g1 26 false 84 87 30 rfl rfl rfl rfl rfl ?_
    refine s1 87 360 30 rfl rfl rfl rfl rfl rfl trivial ?_
    refine g1 26 false 84 88 31 rfl rfl rfl rfl rfl ?_
    refine s1 88 368 31 rfl rfl rfl rfl rfl rfl (by first | trivial | omega | (simp only [List.length_map, List.length_append, List.length_cons, List.length_nil] at *; omega)) ?_
    refine g1 26 false 84 89 32 rfl rfl rfl rfl rfl ?_
    refine s1 89 376 32 rfl rfl rfl rfl rfl rfl (by first | trivial | omega | (simp only [List.length_map, List.length_append, List.length_cons, List.length_nil] at *; omega)) ?_
    refine val 89 (SV.b false) rfl (by simp) ?_
    refine s1 90 384 33 rfl rfl rfl rfl rfl rfl trivial ?_
    refine s1 91 392 34 rfl rfl rfl rfl rfl rfl trivial ?_
    refine g1 33 false 91 92 35 rfl rfl rfl rfl rfl ?_
    refine s1 92 400 35 rfl rfl rfl rfl rfl rfl trivial ?_
    refine g1 33 false 91 93 36 rfl rfl rfl rfl rfl ?_
    refine s1 93 408 36 rfl rfl rfl rfl rfl rfl (by first | trivial | omega | (simp only [List.length_map, List.length_append, List.length_cons, List.length_nil] at *; omega)) ?_
    refine g1 33 false 91 94 37 rfl rfl rfl rfl rfl ?_
    refine s1 94 416 37 rfl rfl rfl rfl rfl rfl trivial ?_
    refine g1 33 false 91 95 38 rfl rfl rfl rfl rfl ?_
    refine s1 95 424 38 rfl rfl rfl rfl rfl rfl (by first | trivial | omega | (simp only [List.length_map, List.length_append, List.length_cons, List.length_nil] at *; omega)) ?_
    refine g1 33 false 91 96 39 rfl rfl rfl rfl rfl ?_
    refine c1 (same_self ((played q sc).out.getD n default).told (by have := hok.2.1 _ (ev_mem hn2); omega)) [] [] 96 432 39 rfl rfl rfl rfl rfl rfl rfl rfl Tryd.func11 rfl rfl rfl rfl trivial rfl rfl ?_
    refine g1 33 false 91 97 40 rfl rfl rfl rfl rfl ?_
    refine s1 97 440 40 rfl rfl rfl rfl rfl rfl trivial ?_
    refine s1 98 448 41 rfl rfl rfl rfl rfl rfl trivial ?_
    refine e1 456 rfl ?_
    refine keep [5, 8, 11, 98] rfl ?_
    refine q1 rfl (fun hc10 => ?_) (fun hc10 => ?_)
    · skip
      exact absurd hc10 (by decide)
    try simp only [cs, ne_eq] at hc10
    refine W_skip ?_
    refine bn ?_
    refine tn ?_
    refine r0 ?_
    refine s1 48 456 1 rfl rfl rfl rfl rfl rfl trivial ?_
    refine sA 49 464 2 rfl rfl rfl rfl rfl rfl rfl rfl rfl (by unfold inRange; omega) ?_
    refine s1 11 472 3 rfl rfl rfl rfl rfl rfl trivial ?_
    refine e1 480 rfl ?_
    refine tn ?_
    exact again ((n + 1 : Nat)) [] (show (n + 1) ≤ (played q sc).out.length from (by omega)) (show (played q sc).out.length - (n + 1) < (played q sc).out.length - n from (by omega)) rfl ⟨rfl, rfl, rfl, trivial⟩ trivial
  try simp only [cs, ne_eq] at hc6
  refine W_exit ?_
  refine tx ?_
  refine tx ?_
  refine bx ?_
  refine tn ?_
  refine r1 ?_
  refine s1 4 32 1 rfl rfl rfl rfl rfl rfl trivial ?_
  refine e1 40 rfl ?_
  refine keep [4] rfl ?_
  refine W_ret ?_
  exact out1 4 (SV.b true) (π := []) (hout := []) Tryd.results6 rfl rfl rfl rfl trivial rfl

end Go.Proofs.YtdjphneoecebmaaDoor.Nice
