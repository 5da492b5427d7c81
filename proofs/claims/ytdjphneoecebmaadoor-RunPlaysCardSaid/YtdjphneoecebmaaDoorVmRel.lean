/- The worker goes with the thread. -/
import Derived.Test.YtdjphneoecebmaaDoorVmRef
namespace Go.Proofs.YtdjphneoecebmaaDoor.Nice
open Go
set_option linter.unusedVariables false
set_option linter.unusedSimpArgs false
set_option maxRecDepth 100000
set_option maxHeartbeats 4000000
structure RelD (t : Thr) (w : Wkr) : Prop where
  told : w.told = t.told
  e : w.e = t.e
  ov : w.ov = t.ov
  pc : t.ov = false → w.pc = t.pc
  r : ∀ j : Int, 0 ≤ j → j < 24 → lk w.L j = t.r j.toNat
structure Rng (s : Thr × List Int) : Prop where
  r : ∀ j, inRange (s.1.r j)
  ws : ∀ i, inRange (s.2.getD i 0)
def CRng (C : List Ins) : Prop := ∀ k, inRange (C.getD k default).b
theorem wrp_rng (x : Int) : inRange (wrp x) := by unfold wrp inRange; rw [IntKind.wrap_i64]; omega
theorem wrp_k (x : Int) : ∃ k, wrp x = x + 18446744073709551616 * k := by
  unfold wrp; rw [IntKind.wrap_i64]
  refine ⟨-((x + 9223372036854775808) / 18446744073709551616), ?_⟩
  omega
theorem wrp_add (x k : Int) : wrp (x + 18446744073709551616 * k) = wrp x := by
  unfold wrp; rw [IntKind.wrap_i64, IntKind.wrap_i64]; omega
theorem tmod_rng {a b : Int} (h : inRange a) : inRange (a.tmod b) := by
  unfold inRange at *
  have key : ∀ x : Int, 0 ≤ x → 0 ≤ x.tmod b ∧ x.tmod b ≤ x := by
    intro x hx
    refine ⟨Int.tmod_nonneg b hx, ?_⟩
    have h1 : (x.tmod b).natAbs = x.natAbs % b.natAbs := Int.natAbs_tmod x b
    have h2 := Int.tmod_nonneg b hx
    have h3 := Nat.mod_le x.natAbs b.natAbs
    omega
  by_cases h0 : 0 ≤ a
  · have := key a h0; omega
  · have := key (-a) (by omega)
    rw [Int.neg_tmod] at this; omega
theorem rem_eq {a b : Int} (h : inRange a) : wrp (a - wrp (wrp (a.tdiv b) * b)) = a.tmod b := by
  obtain ⟨k1, e1⟩ := wrp_k (a.tdiv b)
  obtain ⟨k2, e2⟩ := wrp_k (wrp (a.tdiv b) * b)
  have e3 : a - wrp (wrp (a.tdiv b) * b) = a.tmod b + 18446744073709551616 * (-(k1 * b) - k2) := by
    rw [e2, e1, Int.add_mul, Int.tmod_def, Int.mul_comm b (a.tdiv b)]
    have : (18446744073709551616 * k1) * b = 18446744073709551616 * (k1 * b) := by rw [Int.mul_assoc]
    rw [this]
    generalize k1 * b = u; generalize a.tdiv b * b = v
    omega
  rw [e3, wrp_add]
  exact wrap_in (tmod_rng h)
theorem boolI_rng (b : Bool) : inRange (boolI b) := by cases b <;> (constructor <;> decide)
theorem zero_rng : inRange 0 := by constructor <;> decide
theorem quoI_rng {a b : Int} (h : inRange a) (q : Bool) : inRange (quoI a b q) := by
  unfold quoI
  split
  · exact zero_rng
  · split
    · exact tmod_rng h
    · exact wrp_rng _
theorem alu_rng {o : Ins} {r : Nat → Int} (h : ∀ j, inRange (r j)) (hb : inRange o.b) : inRange (alu o r) := by
  unfold alu
  repeat' split
  all_goals first | exact hb | exact h _ | exact wrp_rng _ | exact quoI_rng (h _) _ | exact boolI_rng _
theorem setR_rng {r : Nat → Int} (h : ∀ j, inRange (r j)) {a v : Int} (hv : inRange v) (j : Nat) : inRange (setR r a v j) := by
  unfold setR; split
  · exact hv
  · exact h j
theorem set_rng {ws : List Int} (h : ∀ i, inRange (ws.getD i 0)) {n : Nat} {v : Int} (hv : inRange v) (i : Nat) : inRange ((ws.set n v).getD i 0) := by
  rw [List.getD_eq_getElem?_getD, List.getElem?_set]
  split
  · split
    · exact hv
    · exact zero_rng
  · rw [← List.getD_eq_getElem?_getD]; exact h i
theorem vword_rng {o : Ins} {n : Nat} {ws : List Int} {t : Thr} (h : Rng (t, ws)) : Rng (vword o n ws t) := by
  unfold vword
  repeat' split
  · exact ⟨setR_rng h.r (h.ws _), h.ws⟩
  · exact ⟨h.r, set_rng h.ws (h.r _)⟩
  · exact ⟨setR_rng h.r (by constructor <;> decide), set_rng h.ws (h.r _)⟩
  · exact ⟨setR_rng h.r (by constructor <;> decide), h.ws⟩
  · exact h
theorem vother_rng {o : Ins} {ws : List Int} {t : Thr} (h : Rng (t, ws)) : Rng (vother o ws t) := by
  unfold vother
  repeat' split
  all_goals first | exact vword_rng h | exact ⟨h.r, h.ws⟩
theorem vstep_rng {C : List Ins} (hc : CRng C) {s : Thr × List Int} (h : Rng s) : Rng (vstep C s.2 s.1) := by
  unfold vstep
  split
  · exact h
  · have : Rng (vexec (C.getD s.1.pc.toNat default) s.2 ⟨s.1.r, s.1.pc + 1, s.1.told, s.1.e, s.1.ov⟩) := by
      unfold vexec
      split
      · exact ⟨setR_rng h.r (alu_rng h.r (hc _)), h.ws⟩
      · exact vother_rng ⟨h.r, h.ws⟩
    exact ⟨this.r, this.ws⟩
theorem rel_set {L : List (Int × Int)} {r : Nat → Int} (h : ∀ j : Int, 0 ≤ j → j < 24 → lk L j = r j.toNat) {a : Int} (ha : 0 ≤ a ∧ a < 24) (v : Int) (j : Int) (h0 : 0 ≤ j) (h1 : j < 24) : lk (stL L a v) j = setR r a v j.toNat := by
  rw [lk_st, setR]
  by_cases e : j = a
  · subst e; rw [if_pos rfl, if_pos rfl]
  · rw [if_neg e, if_neg (by omega)]; exact h j h0 h1
theorem rel_set2 {L : List (Int × Int)} {r : Nat → Int} (h : ∀ j : Int, 0 ≤ j → j < 24 → lk L j = r j.toNat) {a : Int} (ha : 0 ≤ a ∧ a < 24) (u v : Int) (j : Int) (h0 : 0 ≤ j) (h1 : j < 24) : lk (stL (stL L a u) a v) j = setR r a v j.toNat := by
  rw [lk_st, setR]
  by_cases e : j = a
  · subst e; rw [if_pos rfl, if_pos rfl]
  · rw [if_neg e, if_neg (by omega), lk_st, if_neg e]; exact h j h0 h1
/-- How thread and worker, once they have gone one instruction, stand to each other. -/
def After (n : Nat) (p : Thr × List Int) (q : Wkr × List Int) : Prop := RelD p.1 q.1 ∧ q.2 = p.2
theorem after_fin {n : Nat} {L : List (Int × Int)} {r : Nat → Int} {told : List Int} {e pc : Int} {ws : List Int} (h : ∀ j : Int, 0 ≤ j → j < 24 → lk L j = r j.toNat) : After n (⟨r, pc, told, e, decide (pc = n)⟩, ws) (rfin n L told e pc ws) := ⟨⟨rfl, rfl, rfl, fun _ => rfl, h⟩, rfl⟩
theorem after_bad {n : Nat} {L : List (Int × Int)} {r : Nat → Int} {told : List Int} {e pc pc' : Int} {ws : List Int} (h : ∀ j : Int, 0 ≤ j → j < 24 → lk L j = r j.toNat) : After n (⟨r, pc, told, e, true⟩, ws) (⟨L, pc', told, e, true⟩, ws) := ⟨⟨rfl, rfl, rfl, (fun h => by cases h), h⟩, rfl⟩
theorem rel_step {C : List Ins} (hC : mayB C = true) {t : Thr} {w : Wkr} {ws : List Int} (hr : RelD t w) (hg : Rng (t, ws)) (hpc : t.ov = false → 0 ≤ t.pc ∧ t.pc < C.length) (htl : t.told.length ≤ 200) : After C.length (vstep C ws t) (rone C ws w) := by
  obtain ⟨h1, h2, h3, h4, h5⟩ := hr
  by_cases hov : t.ov = true
  · rw [step_over hov, rone_over (h3.trans hov)]; exact ⟨⟨h1, h2, h3, h4, h5⟩, rfl⟩
  have hov : t.ov = false := by cases e : t.ov <;> simp_all
  have hp := hpc hov
  have h4 := h4 hov
  have fit := fit_at hC (n := t.pc.toNat) (by omega)
  generalize ho : C.getD t.pc.toNat default = o at fit
  have ho2 : C.getD w.pc.toNat default = o := by rw [h4]; exact ho
  obtain ⟨hk, ha, ha10, hb, hb11, hc, hd⟩ := fit
  have hlb : (2 ≤ o.k ∧ o.k ≤ 9) ∨ (13 ≤ o.k ∧ o.k ≤ 15) → lk w.L o.b = t.r o.b.toNat := fun h => h5 _ (hb h).1 (hb h).2
  have hlc : 3 ≤ o.k ∧ o.k ≤ 9 → lk w.L o.c = t.r o.c.toNat := fun h => h5 _ (hc h).1 (hc h).2
  have hla : o.k ≠ 10 → o.k ≠ 17 → lk w.L o.a = t.r o.a.toNat := fun h h' => h5 _ (ha h h').1 (ha h h').2
  have hld : o.k = 15 → lk w.L o.d = t.r o.d.toNat := fun h => h5 _ (hd h).1 (hd h).2
  have alu9 : o.k ≤ 9 → ∀ v, alu o t.r = v → vstep C ws t = (⟨setR t.r o.a v, t.pc + 1, t.told, t.e, decide (t.pc + 1 = C.length)⟩, ws) := by
    intro hk9 v hv
    have := step_alu (ws := ws) hov (by rw [ho]; exact hk9) (v := v) (by rw [ho]; exact hv) (b := decide (t.pc + 1 = C.length)) (by rw [hov, Bool.false_or])
    rw [this, ho]
  have oth : ¬ o.k ≤ 9 → ∀ q : Thr × List Int, vother o ws ⟨t.r, t.pc + 1, t.told, t.e, false⟩ = q → ∀ b, (q.1.ov || decide (q.1.pc = C.length)) = b → vstep C ws t = (⟨q.1.r, q.1.pc, q.1.told, q.1.e, b⟩, q.2) := by
    intro hk9 q hq b hb
    exact step_oth hov (by rw [ho]; exact hk9) (by rw [ho, hov]; exact hq) hb
  have go : ∀ q, rexec C.length o ws w = q → rone C ws w = q := fun q hq => rone_go (h3.trans hov) (by rw [ho2]; exact hq)
  have e : o.k = 1 ∨ o.k = 2 ∨ o.k = 3 ∨ o.k = 4 ∨ o.k = 5 ∨ o.k = 6 ∨ o.k = 7 ∨ o.k = 8 ∨ o.k = 9 ∨ o.k = 10 ∨ o.k = 11 ∨ o.k = 12 ∨ o.k = 13 ∨ o.k = 14 ∨ o.k = 15 ∨ o.k = 16 ∨ o.k = 17 := by omega
  rcases e with k | k | k | k | k | k | k | k | k | k | k | k | k | k | k | k | k
  · rw [alu9 (by omega) _ (alu_1 k), go _ (rx_1 k), h1, h2, h4]; exact after_fin (rel_set h5 (ha (by omega) (by omega)) _)
  · rw [alu9 (by omega) _ (alu_2 k), go _ (rx_2 k), h1, h2, h4, hlb (by omega)]; exact after_fin (rel_set h5 (ha (by omega) (by omega)) _)
  · rw [alu9 (by omega) _ (alu_3 k), go _ (rx_3 k), h1, h2, h4, hlb (by omega), hlc (by omega)]; exact after_fin (rel_set h5 (ha (by omega) (by omega)) _)
  · rw [alu9 (by omega) _ (alu_4 k), go _ (rx_4 k), h1, h2, h4, hlb (by omega), hlc (by omega)]; exact after_fin (rel_set h5 (ha (by omega) (by omega)) _)
  · rw [alu9 (by omega) _ (alu_5 k), go _ (rx_5 k), h1, h2, h4, hlb (by omega), hlc (by omega)]; exact after_fin (rel_set h5 (ha (by omega) (by omega)) _)
  · have hq : alu o t.r = quoI (t.r o.b.toNat) (t.r o.c.toNat) false := by rw [alu_6 k, k]; rfl
    have ec := hlc (by omega)
    have eb := hlb (by omega)
    by_cases hz : lk w.L o.c = 0
    · rw [alu9 (by omega) 0 (by rw [hq, ← ec]; unfold quoI; rw [if_pos hz]), go _ (rx_6z k hz), h1, h2, h4]; exact after_fin (rel_set h5 (ha (by omega) (by omega)) _)
    · rw [alu9 (by omega) _ (hq.trans (by unfold quoI; rw [if_neg (by rw [← ec]; exact hz), if_neg (by decide)])), go _ (rx_6q k hz), h1, h2, h4, eb, ec]; exact after_fin (rel_set2 h5 (ha (by omega) (by omega)) _ _)
  · have hq : alu o t.r = quoI (t.r o.b.toNat) (t.r o.c.toNat) true := by rw [alu_7 k, k]; rfl
    have ec := hlc (by omega)
    have eb := hlb (by omega)
    by_cases hz : lk w.L o.c = 0
    · rw [alu9 (by omega) 0 (by rw [hq, ← ec]; unfold quoI; rw [if_pos hz]), go _ (rx_7z k hz), h1, h2, h4]; exact after_fin (rel_set h5 (ha (by omega) (by omega)) _)
    · rw [alu9 (by omega) _ (hq.trans (by unfold quoI; rw [if_neg (by rw [← ec]; exact hz), if_pos rfl])), go _ (rx_7q k hz), h1, h2, h4, eb, ec, rem_eq (hg.r _)]; exact after_fin (rel_set2 h5 (ha (by omega) (by omega)) _ _)
  · rw [alu9 (by omega) _ (alu_8 k), go _ (rx_8 k), h1, h2, h4, hlb (by omega), hlc (by omega)]; exact after_fin (rel_set h5 (ha (by omega) (by omega)) _)
  · rw [alu9 (by omega) _ (alu_9 k), go _ (rx_9 k), h1, h2, h4, hlb (by omega), hlc (by omega)]; exact after_fin (rel_set h5 (ha (by omega) (by omega)) _)
  · rw [oth (by omega) _ (voth_jump k) _ (Bool.false_or _), go _ (rx_10 k), h1, h2]; exact after_fin h5
  · have ea := hla (by omega) (by omega)
    by_cases hz : lk w.L o.a ≠ 0
    · rw [oth (by omega) _ (voth_when (.inl k) (by rw [k]; show (t.r o.a.toNat != 0) = true; rw [bne_iff_ne, ← ea]; exact hz)) _ (Bool.false_or _), go _ (rx_11y k hz), h1, h2]; exact after_fin h5
    · rw [oth (by omega) _ (voth_not (.inl k) (by rw [k]; show ¬ (t.r o.a.toNat != 0) = true; rw [bne_iff_ne, ← ea]; exact hz)) _ (Bool.false_or _), go _ (rx_11n k hz), h1, h2, h4]; exact after_fin h5
  · have ea := hla (by omega) (by omega)
    by_cases hz : lk w.L o.a = 0
    · rw [oth (by omega) _ (voth_when (.inr k) (by rw [k]; show (t.r o.a.toNat != 0) = false; rw [bne_eq_false_iff_eq, ← ea]; exact hz)) _ (Bool.false_or _), go _ (rx_12y k hz), h1, h2]; exact after_fin h5
    · rw [oth (by omega) _ (voth_not (.inr k) (by rw [k]; show ¬ (t.r o.a.toNat != 0) = false; rw [bne_eq_false_iff_eq, ← ea]; exact hz)) _ (Bool.false_or _), go _ (rx_12n k hz), h1, h2, h4]; exact after_fin h5
  all_goals try
    have eb := hlb (by omega)
    by_cases hf : wrp (lk w.L o.b + o.c) < 0 ∨ (ws.length : Int) ≤ wrp (lk w.L o.b + o.c)
    · rw [oth (by omega) _ (voth_far (by omega) (by rw [← eb]; exact hf)) _ rfl, go _ (rx_far (by omega) hf), h1]; exact after_bad h5
  · rw [oth (by omega) _ ((voth_word (by omega) (by rw [← eb]; exact hf)).trans (vword_load k)) _ (Bool.false_or _), go _ (rx_13 k hf), h1, h2, h4, eb]; exact after_fin (rel_set h5 (ha (by omega) (by omega)) _)
  · rw [oth (by omega) _ ((voth_word (by omega) (by rw [← eb]; exact hf)).trans (vword_store k)) _ (Bool.false_or _), go _ (rx_14 k hf), h1, h2, h4, eb, hla (by omega) (by omega)]; exact after_fin h5
  · have ed := hld k
    by_cases hz : ws.getD (wrp (lk w.L o.b + o.c)).toNat 0 = lk w.L o.d
    · rw [oth (by omega) _ ((voth_word (by omega) (by rw [← eb]; exact hf)).trans (vword_casY k (by rw [← eb, ← ed]; exact hz))) _ (Bool.false_or _), go _ (rx_15y k hf hz), h1, h2, h4, eb, hla (by omega) (by omega)]; exact after_fin (rel_set h5 (ha (by omega) (by omega)) _)
    · rw [oth (by omega) _ ((voth_word (by omega) (by rw [← eb]; exact hf)).trans (vword_casN k (by rw [← eb, ← ed]; exact hz))) _ (Bool.false_or _), go _ (rx_15n k hf hz), h1, h2, h4]; exact after_fin (rel_set h5 (ha (by omega) (by omega)) _)
  · have ea := hla (by omega) (by omega)
    by_cases hz : 200 ≤ w.told.length
    · rw [oth (by omega) _ (voth_full k (by show t.told.length = 200; rw [h1] at hz; omega)) _ rfl, go _ (rx_16f k hz), h1]; exact after_bad h5
    · rw [oth (by omega) _ (voth_emit k (by show ¬ t.told.length = 200; rw [h1] at hz; omega)) _ (Bool.false_or _), go _ (rx_16t k hz), h1, h2, h4, ea]; exact after_fin h5
  · rw [oth (by omega) _ (voth_done k) _ rfl, go _ (rx_17 k), h1, h2]; unfold rfin; rw [decide_eq_true rfl]; exact after_bad h5

end Go.Proofs.YtdjphneoecebmaaDoor.Nice
