/- run.Play and the document's run, whatever many threads. -/
import Derived.Test.YtnnjobmiepnedaaDoorPlay0
import Derived.Test.YtnnjobmiepnedaaDoorPlay1
import Derived.Test.YtnnjobmiepnedaaDoorPlay2
import Derived.Test.YtnnjobmiepnedaaDoorPlay3
import Derived.Test.YtnnjobmiepnedaaDoorPlay4
namespace Go.Proofs.YtnnjobmiepnedaaDoor.Nice
open Go
set_option linter.unusedVariables false
set_option linter.unusedSimpArgs false
set_option maxRecDepth 100000
set_option maxHeartbeats 4000000

theorem play_big (q : Mach) (hq : q.ok) (hb : 4 < q.ts.length) (sc : List Int) (hsc : sc.length ≤ 9223372036854775807) (R0 : PRes) (hp0 : played q sc = R0) : Spec Tryd.prog GV 20 [machS q, intsV sc] [] (fun r ho => r = SV.tup [evV R0.out, intsV R0.ws, SV.i R0.e] ∧ ho = []) := by
  refine start 161 0 Tryd.func20 rfl rfl rfl rfl ?_
  refine r1 ?_
  refine s1 2 0 1 rfl rfl rfl rfl rfl rfl trivial ?_
  refine s1 4 8 2 rfl rfl rfl rfl rfl rfl trivial ?_
  refine s1 5 16 3 rfl rfl rfl rfl rfl rfl trivial ?_
  refine s1 6 24 4 rfl rfl rfl rfl rfl rfl trivial ?_
  refine e1 32 rfl ?_
  refine keep [1, 2] rfl ?_
  refine W_seq ?_
  refine W_block ?_
  refine r1 ?_
  refine s1 17 32 1 rfl rfl rfl rfl rfl rfl (by first | trivial | omega) ?_
  refine c1 (mach_any q hq) [] [] 18 40 2 rfl rfl rfl rfl rfl rfl rfl rfl Tryd.func30 rfl rfl rfl rfl trivial rfl rfl ?_
  refine s1 19 48 3 rfl rfl rfl rfl rfl rfl trivial ?_
  refine s1 16 56 4 rfl rfl rfl rfl rfl rfl trivial ?_
  refine e1 64 rfl ?_
  refine keep [1, 2, 16] rfl ?_
  refine q1 rfl (fun hc1 => ?_) (fun hc1 => ?_)
  · skip
    try simp only [cs, ne_eq] at hc1
    refine r1 ?_
    refine s1 4 64 1 rfl rfl rfl rfl rfl rfl trivial ?_
    refine s1 5 72 2 rfl rfl rfl rfl rfl rfl trivial ?_
    refine s1 6 80 3 rfl rfl rfl rfl rfl rfl trivial ?_
    refine e1 88 rfl ?_
    refine keep [4, 5, 6] rfl ?_
    refine nilv 4 6 (evF []) rfl ?_
    refine nilv 5 1 (intsF []) rfl ?_
    refine W_ret ?_
    refine br ?_
    refine tr ?_
    have hr := hp0.symm.trans (pl_form hc1)
    exact out3 4 5 6 (evV R0.out) (intsV R0.ws) (SV.i R0.e) (π := []) (hout := []) Tryd.results20 rfl rfl rfl (by rw [hr]; rfl) (by rw [hr]; rfl) (by rw [hr]; rfl) rfl rfl trivial ⟨rfl, rfl⟩
  · skip
    exact absurd (mach_ws (q := q) (by simpa using hc1)).2 (by omega)

theorem play_any (q : Mach) (hq : q.ok) (sc : List Int) (hsc : sc.length ≤ 9223372036854775807) (R0 : PRes) (hp0 : played q sc = R0) : Spec Tryd.prog GV 20 [machS q, intsV sc] [] (fun r ho => r = SV.tup [evV R0.out, intsV R0.ws, SV.i R0.e] ∧ ho = []) := by
  rcases (show q.ts.length = 0 ∨ q.ts.length = 1 ∨ q.ts.length = 2 ∨ q.ts.length = 3 ∨ q.ts.length = 4 ∨ 4 < q.ts.length from by omega) with h | h | h | h | h | h
  · exact play_0 q hq h sc hsc R0 hp0
  · exact play_1 q hq h sc hsc R0 hp0
  · exact play_2 q hq h sc hsc R0 hp0
  · exact play_3 q hq h sc hsc R0 hp0
  · exact play_4 q hq h sc hsc R0 hp0
  · exact play_big q hq h sc hsc R0 hp0
structure PSok (q : Mach) (k : Nat) (s : PS) : Prop where
  ws : s.ws.length ≤ 200
  ts : ∀ j, TSok q j (s.ts.getD j ⟨0, none⟩)
  out : ∀ e, e ∈ s.out → e.told.length ≤ 200
  n : s.out.length ≤ 2 * k
theorem pgo_ok {q : Mach} {j : Nat} {step nx : Int} {C : List Ins} {t : Thr} {ws : List Int} {out : List Ev} (hl : Live ws.length C t ws) (hw : ws.length ≤ 200) (h0 : 1 ≤ nx ∧ nx ≤ (q.ts.getD j []).length) (ho : ∀ e, e ∈ out → e.told.length ≤ 200) :
    TSok q j (pgo j step nx C t ws out).1 ∧ (pgo j step nx C t ws out).2.1.length ≤ 200 ∧ (∀ e, e ∈ (pgo j step nx C t ws out).2.2 → e.told.length ≤ 200) ∧ (pgo j step nx C t ws out).2.2.length ≤ out.length + 1 := by
  have h1 := ws_len hl rfl
  have h2 := (vstep_ok hl.c hl.ok).told
  cases h : (vstep C ws t).1.ov with
  | false => rw [pgo_alive rfl h]; exact ⟨ok_alive hl h0 rfl, by show (vstep C ws t).2.length ≤ 200; omega, ho, Nat.le_succ _⟩
  | true =>
    rw [pgo_over rfl h]
    refine ⟨ok_over ⟨by omega, h0.2⟩, by show (vstep C ws t).2.length ≤ 200; omega, fun e he => ?_, by simp⟩
    rcases List.mem_append.1 he with he | he
    · exact ho e he
    · rw [List.mem_singleton.1 he]; exact h2
theorem pbody_ok {q : Mach} (hq : machB q = true) {j : Nat} (hj : j < q.ts.length) {step : Int} {s : TS} {ws : List Int} {out : List Ev} (hs : TSok q j s) (hw : ws.length ≤ 200) (ho : ∀ e, e ∈ out → e.told.length ≤ 200) :
    TSok q j (pbody q j step s ws out).1 ∧ (pbody q j step s ws out).2.1.length ≤ 200 ∧ (∀ e, e ∈ (pbody q j step s ws out).2.2 → e.told.length ≤ 200) ∧ (pbody q j step s ws out).2.2.length ≤ out.length + 2 := by
  obtain ⟨nx, cur⟩ := s
  have hnx := hs.nx
  cases cur with
  | none =>
    by_cases h : nx < (q.ts.getD j []).length
    · rw [pb_begin h]
      obtain ⟨_, _, _, hc⟩ := mach_calls hq hj nx hnx.1 h
      have := pgo_ok (q := q) (j := j) (step := step) (nx := nx + 1) (C := codeOf q j nx) (t := vnew (codeOf q j nx) (callAt q j nx).args) (ws := ws) (out := out ++ [⟨step, j, nx, false, 0, []⟩]) ⟨hc, vnew_ok⟩ hw ⟨by have := hnx.1; simp only [] at this; omega, by omega⟩ (fun e he => by
        rcases List.mem_append.1 he with he | he
        · exact ho e he
        · rw [List.mem_singleton.1 he]; simp)
      exact ⟨this.1, this.2.1, this.2.2.1, by have := this.2.2.2; rw [List.length_append, List.length_singleton] at this; omega⟩
    · rw [pb_idle h]; exact ⟨hs, hw, ho, by show out.length ≤ _; omega⟩
  | some p =>
    obtain ⟨C, t⟩ := p
    have hl := live_of (ws := ws) hs
    rw [pb_go]
    have := pgo_ok (q := q) (j := j) (step := step) (nx := nx) (out := out) hl.1 hw ⟨hl.2, hnx.2⟩ ho
    exact ⟨this.1, this.2.1, this.2.2.1, by omega⟩
theorem prun_ok {q : Mach} (hq : machB q = true) : ∀ (sc : List Int) (k : Nat) (s : PS), (∀ v, v ∈ sc → bad q v = false) → PSok q k s → PSok q (k + sc.length) (prun q sc k s)
  | [], k, s, _, h => h
  | v :: r, k, s, hb, h => by
    unfold prun
    have hv := hb v (List.mem_cons_self ..)
    unfold bad at hv
    simp only [Bool.or_eq_false_iff, decide_eq_false_iff_not] at hv
    have hj : v.toNat < q.ts.length := by omega
    have := pbody_ok hq hj (step := (k : Int)) (h.ts v.toNat) h.ws h.out
    have ih := prun_ok hq r (k + 1) (pstep q v.toNat k s) (fun u hu => hb u (List.mem_cons_of_mem _ hu)) ⟨this.2.1, fun j => ?_, this.2.2.1, by have h1 := this.2.2.2; have h2 := h.n; show (pbody q v.toNat k (s.ts.getD v.toNat ⟨0, none⟩) s.ws s.out).2.2.length ≤ _; omega⟩
    · rw [List.length_cons, show k + (r.length + 1) = k + 1 + r.length by omega]; exact ih
    · show TSok q j ((s.ts.set v.toNat _).getD j ⟨0, none⟩)
      rw [List.getD_eq_getElem?_getD, List.getElem?_set]
      by_cases e : v.toNat = j
      · subst e
        rw [if_pos rfl]
        split
        · exact this.1
        · exact ok_init q _
      · rw [if_neg e, ← List.getD_eq_getElem?_getD]; exact h.ts j
theorem played_ok (q : Mach) (sc : List Int) : (played q sc).ws.length ≤ 200 ∧ (∀ e, e ∈ (played q sc).out → e.told.length ≤ 200) ∧ (played q sc).out.length ≤ 12000 := by
  unfold played
  split
  · simp
  · next h1 =>
    split
    · simp
    · next h2 =>
      split
      · simp
      · next h3 =>
        have hq : machB q = true := by cases e : machB q <;> simp_all
        have := prun_ok hq sc 0 (pinit q) (fun v hv => by
          have h4 : sc.any (bad q) = false := by cases e : sc.any (bad q) <;> simp_all
          rw [List.any_eq_false] at h4
          have := h4 v hv
          cases e : bad q v <;> simp_all) ⟨(mach_ws hq).1, fun j => ?_, (fun e he => by cases he), by show ([] : List Ev).length ≤ _; simp⟩
        · exact ⟨this.ws, this.out, by have := this.n; show (prun q sc 0 (pinit q)).out.length ≤ _; omega⟩
        · have : (pinit q).ts.getD j ⟨0, none⟩ = ⟨0, none⟩ := by
            unfold pinit
            rw [List.getD_eq_getElem?_getD, List.getElem?_map]
            cases q.ts[j]? <;> rfl
          rw [this]; exact ok_init q j
theorem ev_mem {l : List Ev} {n : Nat} (h : n < l.length) : l.getD n default ∈ l := by
  rw [show l.getD n default = l[n] from by simp [List.getD, h]]; exact List.getElem_mem h

end Go.Proofs.YtnnjobmiepnedaaDoor.Nice
