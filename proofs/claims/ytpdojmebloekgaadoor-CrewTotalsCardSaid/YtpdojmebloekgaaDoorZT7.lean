/- Part 7 of the proof of CrewTotals: MkM, MkN, MkO, MkR, MkI, Wx, Wp. -/
import Derived.Test.YtpdojmebloekgaaDoorZT6
import Derived.Conc.LeavingOf
import Derived.Conc.WgGenN3
namespace Go.Proofs.YtpdojmebloekgaaDoor.Nice.Co
open Go Go.Conc
open Go.ConcR (KK WgAt stA smA mk)
set_option linter.unusedVariables false
set_option linter.unusedSimpArgs false
inductive Sit (P : Program) (p : Pr) (Pst : Value → World → Prop) (r : Rank) (Γ : Gam) (s : Sst) (main : Bool) (g : Goroutine) (w : World) : Prop
 | on (g₀ : Goroutine) (hk : Like g g₀) (hs : g.status = .running) (hs0 : g₀.status = .running) (h : RunR P p Pst r main Γ g₀ w)
 | fin (hs : g.status = .finished) (hm : main = false) (hl : Γ.lo = .out) (hd : Γ.deaf = 0)
 | bl (g₀ : Goroutine) (hg : g = { g₀ with status := .blocked }) (ho : g₀.offers = none) (hs0 : g₀.status = .running) (hl : Γ.lo = .cr) (hsm : s.sm = 0) (h : RunR P p Pst r main Γ g₀ w)
 | ps (k : Nat) (hm : main = false) (hl : Γ.lo = .wk k) (hd : Γ.deaf = 0) (g₁ : Goroutine) (v z : Value) (M : Imm) (hg : g = parked g₁ #[scase p.Ch v z] .send) (hM : ∀ b, M b ≠ none → Γ.own b ∨ Γ.rd b) (hh : Holds M w) (ht : p.Tell k M v)
     (hk : ∀ w₁, WgLv p w₁ → Below P p Pst r false ⟨no, no, 0, .told⟩ (Go.Conc.served g₁ undef) w₁)
 | pr (J : List Nat) (g₁ : Goroutine) (z : Value) (g₀ : Goroutine) (hm : main = true) (hg : g = parked g₁ #[rcase p.Ch z] (.recv true)) (hcl : s.cl = false) (h : RecvN P p (Below P p Pst r) Γ g₀ w J g₁ z)
def QuietE (es : Array Event) (d : Nat) : Prop := ∀ (j : Nat) (e : Event), es[j]? = some e → (MemAct.ofEvent e).touch? = none ∨ ((∃ ad wr, e = ⟨.cell ad, wr, true⟩) ∧ 0 < deafBehind d (es.extract 0 j))
theorem QuietE.nil (d : Nat) : QuietE #[] d := fun j e h => by simp at h
def Left (t : Trace) (i : Nat) : Prop := ∀ q, t.g? q = some i → t.counts q → Knows t 0 q
def Shut (p : Pr) (t : Trace) : Prop := ∃ q, t.act? q = some (.close p.Ch) ∧ t.g? q = some (p.n + 1) ∧ t.heard q ∧ ∀ x, t.g? x = some (p.n + 1) → t.counts x → Before t x q
section
variable {t u : Trace} {i j : Nat}
theorem lt_of_g? {t : Trace} {q i : Nat} (h : t.g? q = some i) : q < t.size := by
 unfold Trace.g? at h
 obtain ⟨op, ho, _⟩ := Option.map_eq_some_iff.1 h
 exact lt_size_of_getElem? ho
theorem g?_new {t u : Trace} {q i : Nat} (h : (t ++ u).g? q = some i) : (q < t.size ∧ t.g? q = some i) ∨ (t.size ≤ q ∧ ∃ op, op ∈ u ∧ op.g = i) := by
 obtain ⟨op, ho, hog⟩ := Option.map_eq_some_iff.1 h
 rcases getElem?_append_cases ho with ⟨hlt, ho'⟩ | ⟨hge, hou⟩
 · exact .inl ⟨hlt, by unfold Trace.g?; rw [ho']; exact congrArg some hog⟩
 · exact .inr ⟨hge, op, hou, hog⟩
theorem counts_touch {t : Trace} {q : Nat} (h : t.counts q) : ∃ x, touchAt t q = some x := let ⟨x, hx, _⟩ := h; ⟨x, hx⟩
theorem Left.other (h : Left t i) (hu : ∀ op, op ∈ u → op.g ≠ i ∨ op.act.touch? = none) : Left (t ++ u) i := by
 intro q hq hc
 rcases g?_new hq with ⟨hlt, hq'⟩ | ⟨hge, _⟩
 · exact (h q hq' ((counts_old hlt).1 hc)).app u
 · obtain ⟨x, hx⟩ := counts_touch hc
   rcases touch_new hx with ⟨hlt, _⟩ | ⟨_, op, hop, hou, hot⟩
   · omega
   · have hg : op.g = i := by
       have : (t ++ u).g? q = some op.g := by simp only [Trace.g?, hop, Option.map_some]
       rw [hq] at this
       exact (Option.some.inj this).symm
     rcases hu op hou with e | e
     · exact absurd hg e
     · rw [e] at hot; cases hot
theorem quiet_not (fn : FuncId) (pos : String) {es : Array Event} (h : QuietE es (Deaf t i)) {q : Nat} (hq : t.size ≤ q) : ¬ (t ++ MemOp.ofEvents i fn pos es).counts q := by
 rintro ⟨x, hx, _, hk⟩
 obtain ⟨act, hact, hxt⟩ := Option.bind_eq_some_iff.1 hx
 obtain ⟨op, ho, rfl⟩ := Option.map_eq_some_iff.1 hact
 have hj : (MemOp.ofEvents i fn pos es)[q - t.size]? = some op := by
   rw [Array.getElem?_append] at ho
   simpa [Nat.not_lt.2 hq] using ho
 rw [ofEvents_eq, Array.getElem?_map] at hj
 obtain ⟨e, he, rfl⟩ := Option.map_eq_some_iff.1 hj
 have hjs : q - t.size ≤ es.size := by
   rcases Nat.lt_or_ge (q - t.size) es.size with h' | h'
   · omega
   · rw [Array.getElem?_eq_none h'] at he; cases he
 rcases h _ e he with h0 | ⟨⟨ad, wr, rfl⟩, hd⟩
 · simp only at hxt; rw [h0] at hxt; cases hxt
 · have hxk : x.kind = .atomic := by
     cases wr <;> simp [MemAct.ofEvent, MemAct.touch?] at hxt <;> subst hxt <;> rfl
   rcases hk with hk | ⟨g, hg, hdf⟩
   · exact hk hxk
   · have hg1 : g = i := by simp [Trace.g?, ho] at hg; exact hg.symm
     subst hg1
     have := deaf_inside t g fn pos es (q - t.size) hjs
     rw [show t.size + (q - t.size) = q by omega, hdf] at this
     omega
theorem Left.own (h : Left t i) (fn : FuncId) (pos : String) {es : Array Event} (hq : QuietE es (Deaf t i)) : Left (t ++ MemOp.ofEvents i fn pos es) i := by
 intro q hg hc
 rcases g?_new hg with ⟨hlt, hq'⟩ | ⟨hge, _⟩
 · exact (h q hq' ((counts_old hlt).1 hc)).app _
 · exact absurd hc (quiet_not fn pos hq hge)
theorem Shut.app {p : Pr} (h : Shut p t) (hu : ∀ q, t.size ≤ q → (t ++ u).g? q = some (p.n + 1) → ¬ (t ++ u).counts q) : Shut p (t ++ u) := by
 obtain ⟨q, h1, h2, h3, h4⟩ := h
 have hl := lt_of_act? h1
 refine ⟨q, by rw [act?_old hl]; exact h1, by rw [g?_old hl]; exact h2, (heard_old hl).2 h3, fun x hx hc => ?_⟩
 rcases Nat.lt_or_ge x t.size with hlt | hge
 · exact (h4 x (by rw [← g?_old (u := u) hlt]; exact hx) ((counts_old hlt).1 hc)).app u
 · exact absurd hc (hu x hge hx)
theorem Shut.other {p : Pr} (h : Shut p t) (hu : ∀ op, op ∈ u → op.g ≠ p.n + 1 ∨ op.act.touch? = none) : Shut p (t ++ u) := by
 refine h.app fun q hq hg hc => ?_
 obtain ⟨x, hx⟩ := counts_touch hc
 rcases touch_new hx with ⟨hlt, _⟩ | ⟨_, op, hop, hou, hot⟩
 · omega
 · have hg' : op.g = p.n + 1 := by
     have : (t ++ u).g? q = some op.g := by simp only [Trace.g?, hop, Option.map_some]
     rw [hg] at this
     exact (Option.some.inj this).symm
   rcases hu op hou with e | e
   · exact absurd hg' e
   · rw [e] at hot; cases hot
theorem Shut.new {p : Pr} (fn : FuncId) (pos : String) (hd : Deaf t (p.n + 1) = 0) : Shut p (t ++ MemOp.ofEvents (p.n + 1) fn pos #[⟨.obj p.Ch, false, true⟩, ⟨.obj p.Ch, true, true⟩]) := by
 have e : MemOp.ofEvents (p.n + 1) fn pos #[⟨.obj p.Ch, false, true⟩, ⟨.obj p.Ch, true, true⟩] = #[{ g := p.n + 1, fn, pos, act := .access ⟨.obj p.Ch, false, true⟩ }, { g := p.n + 1, fn, pos, act := .close p.Ch }] := by rw [ofEvents_eq]; simp [MemAct.ofEvent]
 rw [e]
 have hl : (t ++ #[({ g := p.n + 1, fn, pos, act := .access ⟨.obj p.Ch, false, true⟩ } : MemOp), { g := p.n + 1, fn, pos, act := .close p.Ch }])[t.size + 1]? = some { g := p.n + 1, fn, pos, act := .close p.Ch } := by
   rw [Array.getElem?_append_right (by omega)]; simp
 have hl0 : (t ++ #[({ g := p.n + 1, fn, pos, act := .access ⟨.obj p.Ch, false, true⟩ } : MemOp), { g := p.n + 1, fn, pos, act := .close p.Ch }])[t.size]? = some { g := p.n + 1, fn, pos, act := .access ⟨.obj p.Ch, false, true⟩ } := by
   rw [Array.getElem?_append_right (by omega)]; simp
 refine ⟨t.size + 1, by rw [act?_of hl], by simp only [Trace.g?, hl, Option.map_some], ⟨p.n + 1, by simp only [Trace.g?, hl, Option.map_some], by rw [deaf_succ hl0, deaf_old (Nat.le_refl _)]; exact hd⟩, fun x hx hc => ?_⟩
 rcases Nat.lt_or_ge x (t.size + 1) with hlt | hge
 · exact .inr (.single (.inl ⟨hlt, p.n + 1, hx, by simp only [Trace.g?, hl, Option.map_some]⟩))
 · left
   have := lt_of_g? hx
   simp at this
   omega
end
def los (γ : Nat → Gam) : Nat → Lo := fun i => (γ i).lo
def owns (γ : Nat → Gam) : Nat → Blks := fun i => (γ i).own
def rds (γ : Nat → Gam) : Nat → Blks := fun i => (γ i).rd
def deafs (γ : Nat → Gam) : Nat → Nat := fun i => (γ i).deaf
theorem los_up (γ : Nat → Gam) (i : Nat) (x : Gam) : los (up γ i x) = up (los γ) i x.lo := by funext j; unfold los up; split <;> rfl
theorem owns_up (γ : Nat → Gam) (i : Nat) (x : Gam) : owns (up γ i x) = up (owns γ) i x.own := by funext j; unfold owns up; split <;> rfl
theorem rds_up (γ : Nat → Gam) (i : Nat) (x : Gam) : rds (up γ i x) = up (rds γ) i x.rd := by funext j; unfold rds up; split <;> rfl
theorem deafs_up (γ : Nat → Gam) (i : Nat) (x : Gam) : deafs (up γ i x) = up (deafs γ) i x.deaf := by funext j; unfold deafs up; split <;> rfl
def sayr (p : Pr) (N : Nat) : Nat := if N = p.n + 2 then p.n + 1 else 0
structure Inv (P : Program) (p : Pr) (Pst : Value → World → Prop) (gs : Array Goroutine) (w : World) (γ : Nat → Gam) (ρ : Nat → Rank) (s : Sst) (t : Trace) : Prop where
 pr : Proto p gs.size (los γ) s
 sh : Sh p s w
 dj : Dj gs.size (owns γ) (rds γ) w.heap.size p.Wg p.Ch
 ti : TI gs.size (owns γ) (rds γ) (deafs γ) w.heap.size p.Wg p.Ch (sayr p gs.size) t
 sit : ∀ (i : Nat) (g : Goroutine), gs[i]? = some g → Sit P p Pst (ρ i) (γ i) s (i == 0) g w
 rv : ∀ g, gs[0]? = some g → g.status = .blocked → ∀ (i k : Nat) (g' : Goroutine), gs[i]? = some g' → (γ i).lo = .wk k → g'.status = .running
 lf : ∀ i, 1 ≤ i → i ≤ p.n → i < gs.size → (∀ k, (γ i).lo ≠ .wk k) → Left t i
 cl : gs.size = p.n + 2 → (γ (p.n + 1)).lo = .out → Shut p t
 fi : (γ 0).lo = .fin → Left t (p.n + 1)
abbrev Mea := Rank × List Rank × Nat
def meas (gs : Array Goroutine) (ρ : Nat → Rank) : Mea := (ρ 0, rks ρ (gs.size - 1), nrun gs gs.size)
abbrev Lt3 : Mea → Mea → Prop := Prod.Lex Rank.Lt (Prod.Lex Drop (· < ·))
theorem Lt3.wf : WellFounded Lt3 := (Prod.lex ⟨_, Rank.wf⟩ (Prod.lex ⟨_, Drop.wf⟩ Nat.lt_wfRel)).wf
def Next (P : Program) (p : Pr) (Pst : Value → World → Prop) (gs : Array Goroutine) (w : World) (sl : Option (Nat × Nat)) (ρ : Nat → Rank) (t : Trace) (i : Nat) : Prop :=
 ∃ gs' w' sl' γ' ρ' s' ops, runT P (crowd gs w sl) i = (.next (crowd gs' w' sl'), ops) ∧ Lt3 (meas gs' ρ') (meas gs ρ) ∧ Inv P p Pst gs' w' γ' ρ' s' (t ++ ops)
section
variable {P : Program} {p : Pr} {Pst : Value → World → Prop} {gs : Array Goroutine} {w w' : World} {γ : Nat → Gam} {ρ : Nat → Rank} {s s' : Sst} {t : Trace} {r : Rank} {Γ : Gam} {main : Bool} {g g' o : Goroutine} {sl : Option (Nat × Nat)}
theorem Sit.status (h : Sit P p Pst r Γ s main g w) : g.status = .running ∨ g.status = .finished ∨ g.status = .blocked := by
 cases h with
 | on _ _ hs => exact .inl hs
 | fin hs => exact .inr (.inl hs)
 | bl _ hg => exact .inr (.inr (by rw [hg]))
 | ps _ _ _ _ _ _ _ _ hg => exact .inr (.inr (by rw [hg]; rfl))
 | pr _ _ _ _ _ hg => exact .inr (.inr (by rw [hg]; rfl))
theorem Sit.running (h : Sit P p Pst r Γ s main g w) (hs : g.status = .running) : ∃ g₀, Like g g₀ ∧ g₀.status = .running ∧ RunR P p Pst r main Γ g₀ w := by
 cases h with
 | on g₀ hk _ hs0 h => exact ⟨g₀, hk, hs0, h⟩
 | fin hf => rw [hs] at hf; cases hf
 | bl _ hg => rw [hg] at hs; cases hs
 | ps _ _ _ _ _ _ _ _ hg => rw [hg] at hs; cases hs
 | pr _ _ _ _ _ hg => rw [hg] at hs; cases hs
theorem Sit.of_run (h : RunR P p Pst r main Γ g w) (hm : main = false ∨ Γ.lo ≠ .out) : Sit P p Pst r Γ s main g w := by
 rcases h.node.status with hs | ⟨hs, hl, hd⟩
 · exact .on g (.refl _) hs hs h
 · exact .fin hs (hm.resolve_right (fun x => x hl)) hl hd
theorem Inv.at (I : Inv P p Pst gs w γ ρ s t) (d : Nat) : Inv P p Pst gs (w.at d) γ ρ s t := by
 have hr : ∀ Γ, RelyP p Γ w (w.at d) := fun Γ => ⟨⟨⟨rfl, rfl, rfl, Nat.le_refl _⟩, fun _ _ => rfl⟩, id⟩
 refine ⟨I.pr, ⟨I.sh.wg, I.sh.ch⟩, I.dj, I.ti, fun i g hg => ?_, I.rv, I.lf, I.cl, I.fi⟩
 cases I.sit i g hg with
 | on g₀ hk hs hs0 h => exact .on g₀ hk hs hs0 (h.rely (hr _))
 | fin hs hm hl hd => exact .fin hs hm hl hd
 | bl g₀ hg ho hs0 hl hsm h => exact .bl g₀ hg ho hs0 hl hsm (h.rely (hr _))
 | ps k hm hl hd g₁ v z M hg hM hh ht hk => exact .ps k hm hl hd g₁ v z M hg hM hh ht hk
 | pr J g₁ z g₀ hm hg hcl h => exact .pr J g₁ z g₀ hm hg hcl (h.rely (hr _))
theorem Inv.awake (I : Inv P p Pst gs w γ ρ s t) : ∀ g ∈ gs, awake g := by
 intro g hg tm
 obtain ⟨i, hi⟩ := Array.mem_iff_getElem?.1 hg
 rcases (I.sit i g hi).status with h | h | h <;> rw [h] <;> simp
theorem Proto.pos {N : Nat} {lo : Nat → Lo} (h : Proto p N lo s) : 0 < N := by
 cases h with
 | spawn j q hN => omega
 | late hN => omega
theorem Inv.someone (I : Inv P p Pst gs w γ ρ s t) : ∃ (i : Nat) (g : Goroutine), gs[i]? = some g ∧ g.status = .running := by
 have hpos := I.pr.pos
 obtain ⟨a, ha⟩ : ∃ a, gs[0]? = some a := ⟨_, Array.getElem?_eq_getElem hpos⟩
 have hsa := I.sit 0 a ha
 -- the caller runs, or is parked at an open channel
 have main : a.status = .running ∨ (a.status = .blocked ∧ s.cl = false ∧ ∃ J, los γ 0 = .recv J) := by
   cases hsa with
   | on _ _ hs => exact .inl hs
   | fin _ hm => cases hm
   | bl _ _ _ _ hl =>
     rcases I.pr.main with ⟨j, q, e⟩ | ⟨J, e⟩ | e <;> simp only [los] at e <;> rw [hl] at e <;> cases e
   | ps _ hm => cases hm
   | pr J g₁ z g₀ hm hg hcl h => exact .inr ⟨by rw [hg]; rfl, hcl, J, h.hl⟩
 rcases main with h | ⟨hb, hcl, J, hJ⟩
 · exact ⟨0, a, ha, h⟩
 cases hP : I.pr with
 | spawn j q hN h0 => rw [hJ] at h0; cases h0
 | late hN hm hw md =>
   by_cases hall : AllOut p.n (los γ)
   · obtain ⟨c, hc⟩ : ∃ c, gs[p.n + 1]? = some c := ⟨_, Array.getElem?_eq_getElem (by omega)⟩
     refine ⟨p.n + 1, c, hc, ?_⟩
     cases I.sit _ c hc with
     | on _ _ hs => exact hs
     | fin hs hm hl hd =>
       exfalso
       have hl : los γ (p.n + 1) = .out := hl
       cases md with
       | opn B h => rw [hl] at h; cases h
       | opc B h => rw [hl] at h; cases h
       | reg h => rw [hl] at h; cases h
       | last h => rw [hl] at h; cases h
       | sema h => rw [hl] at h; cases h
       | done h => rw [hl] at h; cases h
       | shut h ho hs => rw [hs] at hcl; cases hcl
     | bl g₀ hg ho hs0 hl hsm =>
       exfalso
       have hl : los γ (p.n + 1) = .cr := hl
       cases md with
       | opn B h => rw [hl] at h; cases h
       | opc B h => rw [hl] at h; cases h
       | reg h ho hB => have := hall.cnt; omega
       | last h L h1 h2 hL => rw [hall L h1 h2] at hL; simp at hL
       | sema h ho hs => rw [hs] at hsm; cases hsm
       | done h => rw [hl] at h; cases h
       | shut h => rw [hl] at h; cases h
     | ps k hm hl =>
       exfalso
       rcases md.closer with ⟨B, e⟩ | ⟨B, e⟩ | e | e | e <;> simp only [los] at e <;> rw [hl] at e <;> cases e
     | pr _ _ _ _ hm => simp at hm
   · obtain ⟨i, h⟩ := Classical.not_forall.1 hall
     obtain ⟨h1, h⟩ := Classical.not_imp.1 h
     obtain ⟨h2, h⟩ := Classical.not_imp.1 h
     obtain ⟨c, hc⟩ : ∃ c, gs[i]? = some c := ⟨_, Array.getElem?_eq_getElem (by omega)⟩
     refine ⟨i, c, hc, ?_⟩
     cases I.sit _ c hc with
     | on _ _ hs => exact hs
     | fin hs hm hl hd => exact absurd hl h
     | bl g₀ hg ho hs0 hl hsm =>
       have hl : los γ i = .cr := hl
       rcases hw i h1 h2 with e | e | e | e | e | e <;> rw [hl] at e <;> cases e
     | ps k hm hl => exact I.rv a ha hb i k c hc hl
     | pr _ _ _ _ hm => simp at hm; omega
theorem Sit.woken (S : Sit P p Pst r Γ s main o w) (hr : RelyP p Γ w w') (hsh : Sh p s' w') (hwk : ((s'.sm = 0 ∨ s'.sm = s.sm) ∧ s'.cl = s.cl) ∨ (mayWake P g && g'.status != .blocked && g'.status != .waiting) = true) (hps : ∀ k, Γ.lo = .wk k → s'.cl = false) :
   Sit P p Pst r Γ s' main (woken P g g' w' o) w' := by
 obtain ⟨q, hch⟩ := hsh.ch
 cases S with
 | on g₀ hk hs hs0 h =>
   have e : Go.Conc.woken P g g' w' o = o := by unfold Go.Conc.woken; split; exact again_running _ (.inl hs); rfl
   rw [e]; exact .on g₀ hk hs hs0 (h.rely hr)
 | fin hs hm hl hd =>
   have e : Go.Conc.woken P g g' w' o = o := by unfold Go.Conc.woken; split; exact again_running _ (.inr hs); rfl
   rw [e]; exact .fin hs hm hl hd
 | bl g₀ hg ho hs0 hl hsm h =>
   by_cases hc : (mayWake P g && g'.status != .blocked && g'.status != .waiting) = true
   · have e : Go.Conc.woken P g g' w' o = g₀ := by
       unfold Go.Conc.woken
       rw [if_pos hc, hg]
       exact Go.ConcR.again_blocked hs0 ho _
     rw [e]; exact .on g₀ (.refl _) hs0 hs0 (h.rely hr)
   · have e : Go.Conc.woken P g g' w' o = o := by unfold Go.Conc.woken; rw [if_neg hc]
     rw [e]
     obtain ⟨a, _⟩ := hwk.resolve_right hc
     exact .bl g₀ hg ho hs0 hl (a.elim id fun x => x.trans hsm) (h.rely hr)
 | ps k hm hl hd g₁ v z M hg hM hh ht hk =>
   rw [hps k hl] at hch
   have e : Go.Conc.woken P g g' w' o = o := by rw [hg]; exact woken_send_open _ _ hch
   rw [e]
   exact .ps k hm hl hd g₁ v z M hg hM (fun b x hb => by rw [hr.ry.keep b (hM b (by rw [hb]; simp))]; exact hh b x hb) ht hk
 | pr J g₁ z g₀ hm hg hcl h =>
   cases hc : s'.cl with
   | false =>
     rw [hc] at hch
     have e : Go.Conc.woken P g g' w' o = o := by rw [hg]; exact woken_recv_open _ _ hch
     rw [e]
     exact .pr J g₁ z g₀ hm hg hc (h.rely hr)
   | true =>
     rw [hc] at hch
     have hwk' := hwk.resolve_left fun ⟨_, x⟩ => by rw [hc, hcl] at x; cases x
     have e : Go.Conc.woken P g g' w' o = { parked g₁ #[rcase p.Ch z] (.recv true) with status := .running } := by
       unfold Go.Conc.woken
       rw [if_pos hwk', hg]
       exact again_recv_closed hch
     rw [e]
     refine .on g₀ ⟨h.hg.frame.symm, h.hg.callers.symm, h.hg.dying.symm⟩ rfl h.hs (RunR.of_node (.recv hm J g₁ z (h.rely hr)))
theorem woken_status {a b : Goroutine} {w' : World} {o : Goroutine} : (Go.Conc.woken P a b w' o).status = o.status ∨ (Go.Conc.woken P a b w' o).status = .running := by
 unfold Go.Conc.woken
 split
 · unfold Goroutine.again
   split
   · simp only []
     split
     · exact .inr rfl
     · exact .inl rfl
   · exact .inr rfl
   · exact .inr rfl
   · exact .inl rfl
 · exact .inl rfl
theorem woken_running {a b : Goroutine} {w' : World} {o : Goroutine} (h : o.status = .running) : Go.Conc.woken P a b w' o = o := by
 unfold Go.Conc.woken; split; exact again_running _ (.inl h); rfl
theorem get_go {i k : Nat} {x : Goroutine} {f : Goroutine → Goroutine} (hi : i < gs.size) : ((gs.map f).setIfInBounds i x)[k]? = if k = i then some x else (gs[k]?).map f := by
 by_cases e : k = i
 · subst e; rw [if_pos rfl, Array.getElem?_setIfInBounds_self_of_lt (by simpa using hi)]
 · rw [if_neg e, Array.getElem?_setIfInBounds_ne (fun x => e x.symm)]; simp
theorem Inv.lt3 {gs' : Array Goroutine} {i : Nat} {r' : Rank} (hsz : gs'.size = gs.size) (hi : i < gs.size) (hr : r'.Lt (ρ i)) : Lt3 (meas gs' (up ρ i r')) (meas gs ρ) := by
 unfold meas
 rcases Nat.eq_zero_or_pos i with e | e
 · subst e; rw [up_same]; exact Prod.Lex.left _ _ hr
 · rw [up_ne _ _ (by omega), hsz]
   exact Prod.Lex.right _ (Prod.Lex.left _ _ (rks_drop e hr (by omega)))
theorem Inv.go (I : Inv P p Pst gs w γ ρ s t) {i : Nat} (hi : gs[i]? = some g) {es : Array Event} (hst : stepG P (i == 0) g w = .go g' w' es) {Γ' : Gam} {r' : Rank} {s' : Sst} (hlt : r'.Lt (ρ i)) (hR : RunR P p Pst r' (i == 0) Γ' g' w')
   (hrly : ∀ j, j < gs.size → j ≠ i → RelyP p (γ j) w w') (hsh : Sh p s' w') (hpr : Proto p gs.size (up (los γ) i Γ'.lo) s')
   (hdj : Dj gs.size (up (owns γ) i Γ'.own) (up (rds γ) i Γ'.rd) w'.heap.size p.Wg p.Ch)
   (hti : TI gs.size (up (owns γ) i Γ'.own) (up (rds γ) i Γ'.rd) (up (deafs γ) i Γ'.deaf) w'.heap.size p.Wg p.Ch (sayr p gs.size) (t ++ MemOp.ofEvents i g.frame.fn g.frame.place es))
   (hwk : ((s'.sm = 0 ∨ s'.sm = s.sm) ∧ s'.cl = s.cl) ∨ mayWake P g = true)
   (hwl : (∃ k, Γ'.lo = .wk k) ↔ ∃ k, (γ i).lo = .wk k) (hfl : Γ'.lo = .fin ↔ (γ i).lo = .fin) (hol : i = 0 → Γ'.lo ≠ .out)
   (hq : 1 ≤ i → i ≤ p.n → (∀ k, (γ i).lo ≠ .wk k) → QuietE es (γ i).deaf)
   (hqc : i = p.n + 1 → Γ'.lo = .out → ((γ i).lo = .out ∧ QuietE es (γ i).deaf) ∨ (es = #[⟨.obj p.Ch, false, true⟩, ⟨.obj p.Ch, true, true⟩] ∧ (γ i).deaf = 0 ∧ (γ i).lo = .cs)) : Next P p Pst gs w sl ρ t i := by
 have hlti : i < gs.size := (Array.getElem?_eq_some_iff.1 hi).1
 have hops : ∀ op, op ∈ MemOp.ofEvents i g.frame.fn g.frame.place es → op.g = i := fun op h => Go.ConcR.g_of_ofEvents op h
 have hg's : g'.status = .running ∨ g'.status = .finished := hR.node.status.imp id fun x => x.1
 have hdeaf : Deaf t i = (γ i).deaf := I.ti.df i hlti
 refine ⟨_, w', sl, up γ i Γ', up ρ i r', s', _, runT_crowd_go hi hst, Inv.lt3 (by simp) hlti hlt, ?_⟩
 have hsz : ((gs.map (Go.Conc.woken P g g' w')).setIfInBounds i g').size = gs.size := by simp
 refine ⟨?_, hsh, ?_, ?_, fun j x hj => ?_, fun a ha hb j k x hj hl => ?_, fun j j1 jn jl hjw => ?_, fun hN hc => ?_, fun hf => ?_⟩
 · rw [hsz, los_up]; exact hpr
 · rw [hsz, owns_up, rds_up]; exact hdj
 · rw [hsz, owns_up, rds_up, deafs_up]; exact hti
 · rw [get_go hlti] at hj
   by_cases e : j = i
   · subst e
     rw [if_pos rfl] at hj; cases hj
     rw [up_same, up_same]
     exact Sit.of_run hR (by
       rcases Nat.eq_zero_or_pos j with e | e
       · exact .inr (hol e)
       · left; simp; omega)
   · rw [if_neg e] at hj
     obtain ⟨o, ho, rfl⟩ := Option.map_eq_some_iff.1 hj
     have hjlt : j < gs.size := (Array.getElem?_eq_some_iff.1 ho).1
     rw [up_ne _ _ e, up_ne _ _ e]
     refine (I.sit j o ho).woken (hrly j hjlt e) hsh (hwk.imp id fun h => ?_) fun k hk => ?_
     · rw [h]; rcases hg's with h | h <;> rw [h] <;> rfl
     · -- a worker that has not told: the channel is open
       have hlo : up (los γ) i Γ'.lo j = .wk k := by rw [up_ne _ _ e]; exact hk
       cases hpr with
       | spawn _ _ _ _ _ _ hs => rw [hs]
       | late hN hm hw md =>
         cases md with
         | opn B hb ho hB hs => rw [hs]
         | opc B hb ho hB hs => rw [hs]
         | reg hb ho hB hs => rw [hs]
         | last hb L _ _ hL => rcases hL with ⟨_, hs⟩ | ⟨_, hs⟩ <;> rw [hs]
         | sema hb ho hs => rw [hs]
         | done hb ho hs => rw [hs]
         | shut hb ho hs =>
           exfalso
           rcases Nat.eq_zero_or_pos j with e0 | e0
           · subst e0
             rcases hm with ⟨J, h, _⟩ | ⟨h, _⟩ <;> rw [hlo] at h <;> cases h
           · rcases Nat.lt_or_ge p.n j with h | h
             · have : j = p.n + 1 := by omega
               subst this; rw [hlo] at hb; cases hb
             · have := ho j e0 h; rw [hlo] at this; cases this
 · rw [get_go hlti] at ha hj
   have hgt : g'.status ≠ .blocked := by rcases hg's with h | h <;> rw [h] <;> simp
   by_cases e0 : (0 : Nat) = i
   · rw [if_pos e0] at ha; cases ha; exact absurd hb hgt
   · rw [if_neg e0] at ha
     obtain ⟨o, ho, rfl⟩ := Option.map_eq_some_iff.1 ha
     have hob : o.status = .blocked := by
       rcases woken_status (P := P) (a := g) (b := g') (w' := w') (o := o) with h | h
       · rw [← h]; exact hb
       · rw [h] at hb; cases hb
     by_cases e : j = i
     · subst e
       rw [if_pos rfl] at hj; cases hj
       rw [up_same] at hl
       rcases hR.node.status with h | ⟨_, h, _⟩
       · exact h
       · rw [hl] at h; cases h
     · rw [if_neg e] at hj
       obtain ⟨o', ho', rfl⟩ := Option.map_eq_some_iff.1 hj
       rw [up_ne _ _ e] at hl
       have := I.rv o ho hob j k o' ho' hl
       rw [woken_running this]; exact this
 · rw [hsz] at jl
   by_cases e : j = i
   · subst e
     rw [up_same] at hjw
     have hnk : ∀ k, (γ j).lo ≠ .wk k := fun k hk => by obtain ⟨k', hk'⟩ := hwl.2 ⟨k, hk⟩; exact hjw k' hk'
     exact (I.lf j j1 jn jl hnk).own _ _ (by rw [hdeaf]; exact hq j1 jn hnk)
   · rw [up_ne _ _ e] at hjw
     exact (I.lf j j1 jn jl hjw).other fun op hop => .inl (by rw [hops op hop]; exact fun x => e x.symm)
 · rw [hsz] at hN
   by_cases e : i = p.n + 1
   · subst e
     rw [up_same] at hc
     rcases hqc rfl hc with ⟨a, b⟩ | ⟨a, b, _⟩
     · refine (I.cl hN a).app fun q hq _ => quiet_not _ _ (by rw [hdeaf]; exact b) hq
     · subst a
       exact Shut.new _ _ (by rw [hdeaf]; exact b)
   · rw [up_ne _ _ (fun x => e x.symm)] at hc
     exact (I.cl hN hc).other fun op hop => .inl (by rw [hops op hop]; exact e)
 · have hf' : (γ 0).lo = .fin := by
     by_cases e : (0 : Nat) = i
     · subst e; rw [up_same] at hf; exact hfl.1 hf
     · rw [up_ne _ _ e] at hf; exact hf
   have h0 := I.fi hf'
   by_cases e : i = p.n + 1
   · subst e
     have hout : (γ (p.n + 1)).lo = .out := by
       cases I.pr with
       | spawn j q hN h0 => simp only [los] at h0; rw [hf'] at h0; cases h0
       | late hN hm hw md =>
         rcases hm with ⟨J, h, _⟩ | ⟨h, hcl⟩
         · simp only [los] at h; rw [hf'] at h; cases h
         · cases md with
           | opn B hb ho hB hs => rw [hs] at hcl; cases hcl
           | opc B hb ho hB hs => rw [hs] at hcl; cases hcl
           | reg hb ho hB hs => rw [hs] at hcl; cases hcl
           | last hb L _ _ hL => rcases hL with ⟨_, hs⟩ | ⟨_, hs⟩ <;> rw [hs] at hcl <;> cases hcl
           | sema hb ho hs => rw [hs] at hcl; cases hcl
           | done hb ho hs => rw [hs] at hcl; cases hcl
           | shut hb ho hs => exact hb
     have hΓ : Γ'.lo = .out := by
       cases hpr with
       | spawn j q hN h0 => rw [up_ne _ _ (by omega)] at h0; simp only [los] at h0; rw [hf'] at h0; cases h0
       | late hN hm hw md =>
         rcases hm with ⟨J, h, _⟩ | ⟨h, hcl⟩
         · rw [up_ne _ _ (by omega)] at h; simp only [los] at h; rw [hf'] at h; cases h
         · cases md with
           | opn B hb ho hB hs => rw [hs] at hcl; cases hcl
           | opc B hb ho hB hs => rw [hs] at hcl; cases hcl
           | reg hb ho hB hs => rw [hs] at hcl; cases hcl
           | last hb L _ _ hL => rcases hL with ⟨_, hs⟩ | ⟨_, hs⟩ <;> rw [hs] at hcl <;> cases hcl
           | sema hb ho hs => rw [hs] at hcl; cases hcl
           | done hb ho hs => rw [hs] at hcl; cases hcl
           | shut hb ho hs => rw [up_same] at hb; exact hb
     rcases hqc rfl hΓ with ⟨_, b⟩ | ⟨_, _, a⟩
     · exact h0.own _ _ (by rw [hdeaf]; exact b)
     · rw [hout] at a; cases a
   · exact h0.other fun op hop => .inl (by rw [hops op hop]; exact e)
end
end Go.Proofs.YtpdojmebloekgaaDoor.Nice.Co
namespace Go.Proofs.YtpdojmebloekgaaDoor.Nice.Co
open Go Go.Conc
open Go.ConcR (KK WgAt stA smA mk)
set_option linter.unusedVariables false
set_option linter.unusedSimpArgs false
theorem ops_of {i : Nat} {fn : FuncId} {pos : String} {es : Array Event} {op : MemOp} (h : op ∈ MemOp.ofEvents i fn pos es) : ∃ e, e ∈ es ∧ op = { g := i, fn, pos, act := .ofEvent e } := by
 rw [ofEvents_eq] at h
 obtain ⟨e, he, rfl⟩ := Array.mem_map.1 h
 exact ⟨e, he, rfl⟩
theorem tok_cell {own rd : Blks} {Wg Ch : Nat} {say : Prop} {ad : Addr} {wr sy : Bool} (h : own ad.block ∨ (rd ad.block ∧ wr = false) ∨ (ad.block = Wg ∧ sy = true)) : ∀ x, (MemAct.ofEvent ⟨.cell ad, wr, sy⟩).touch? = some x → TOk own rd Wg Ch say x := by
 intro x hx
 have hx' : x = ⟨.cell ad, wr, if sy then .atomic else .plain⟩ := by
   cases wr <;> cases sy <;> simp [MemAct.ofEvent, MemAct.touch?] at hx <;> rw [← hx] <;> rfl
 subst hx'
 have hk : (if sy then Touch.Kind.atomic else .plain) ≠ .said := by cases sy <;> simp
 rcases h with h | ⟨h, h2⟩ | ⟨h, h2⟩
 · exact .inl ⟨_, rfl, h, hk⟩
 · exact .inr (.inl ⟨_, rfl, h, h2, hk⟩)
 · subst h2; exact .inr (.inr (.inl ⟨.inl (by simp [blkOf, h]), rfl⟩))
theorem touch_markOk {m : Mark} (h : MarkOk m) : (MemAct.ofEvent (mk m)).touch? = none := by
 rcases h with rfl | rfl | ⟨a, rfl⟩ | ⟨a, rfl⟩ <;> simp [mk, MemAct.ofEvent, MemAct.touch?]
theorem tok_ev {own rd : Blks} {Wg Ch : Nat} {say : Prop} {e : Event} (h : EvOk own rd e) : ∀ x, (MemAct.ofEvent e).touch? = some x → TOk own rd Wg Ch say x := by
 rcases h with ⟨ad, s, rfl, h⟩ | ⟨ad, s, rfl, h⟩ | rfl
 · exact tok_cell (h.imp id fun h => .inl ⟨h, rfl⟩)
 · exact tok_cell (.inl h)
 · intro x hx; simp [noRoomEvent, MemAct.ofEvent, MemAct.touch?] at hx
theorem deaf_ev {own rd : Blks} {es : Array Event} (h : ∀ e, e ∈ es → EvOk own rd e) (d : Nat) : deafBehind d es = d := by
 refine Go.ConcN.deafBehind_idle (fun e he => ?_) d
 rcases h e he with ⟨ad, s, rfl, _⟩ | ⟨ad, s, rfl, _⟩ | rfl <;> simp [noRoomEvent]
theorem touch_mute {e : Event} (h : Event.mute e = true) : (MemAct.ofEvent e).touch? = none := by
 obtain ⟨loc, wr, sy⟩ := e
 cases loc with
 | mark m => cases m <;> simp [Event.mute] at h <;> simp [MemAct.ofEvent, MemAct.touch?]
 | _ => simp [Event.mute] at h
section
variable {N : Nat} {own rd : Nat → Blks} {size Wg Ch : Nat}
theorem Dj.turn (D : Dj N own rd size Wg Ch) {i : Nat} (hi : i < N) {own' rd' : Blks} {size' : Nat} (ho : ∀ b, own' b → own i b ∨ (size ≤ b ∧ b < size')) (hr : ∀ b, rd' b → rd i b) (hs : size ≤ size') : Dj N (up own i own') (up rd i rd') size' Wg Ch := by
 have hw := D.wg
 have hc := D.ch
 have o : ∀ j b, j < N → up own i own' j b → own j b ∨ (j = i ∧ size ≤ b ∧ b < size') := fun j b hj h => by
   by_cases e : j = i
   · subst e; rw [up_same] at h; exact (ho b h).imp id fun x => ⟨rfl, x⟩
   · rw [up_ne _ _ e] at h; exact .inl h
 have r : ∀ j b, up rd i rd' j b → rd j b := fun j b h => by
   by_cases e : j = i
   · subst e; rw [up_same] at h; exact hr b h
   · rwa [up_ne _ _ e] at h
 refine ⟨fun a b x ha hb hab h1 h2 => ?_, fun a b x ha hb h1 h2 => ?_, fun a b ha h => ?_, fun a b ha h => ?_, by omega, by omega, D.ne⟩
 · rcases o a x ha h1 with h1 | ⟨e1, h1, h1'⟩ <;> rcases o b x hb h2 with h2 | ⟨e2, h2, h2'⟩
   · exact D.oo a b x ha hb hab h1 h2
   · have := (D.lto a x ha h1).1; omega
   · have := (D.lto b x hb h2).1; omega
   · exact hab (e1.trans e2.symm)
 · rcases o a x ha h1 with h1 | ⟨e1, h1, h1'⟩
   · exact D.ord a b x ha hb h1 (r b x h2)
   · have := (D.ltr b x hb (r b x h2)).1; omega
 · rcases o a b ha h with h | ⟨e, h, h'⟩
   · obtain ⟨x, y, z⟩ := D.lto a b ha h; exact ⟨by omega, y, z⟩
   · exact ⟨h', by omega, by omega⟩
 · obtain ⟨x, y, z⟩ := D.ltr a b ha (r a b h); exact ⟨by omega, y, z⟩
end
section
variable {P : Program} {p : Pr} {Pst : Value → World → Prop} {gs : Array Goroutine} {w w' : World} {γ : Nat → Gam} {ρ : Nat → Rank} {s s' : Sst} {t : Trace} {g g₀ g' : Goroutine} {sl : Option (Nat × Nat)}
theorem Only.rely {Γ : Gam} (O : Only p w w') (hsh : Sh p s' w') (ho : ∀ b, Γ.own b ∨ Γ.rd b → b ≠ p.Wg ∧ b ≠ p.Ch) : RelyP p Γ w w' := ⟨⟨O.same, fun b hb => O.keep b (ho b hb).1 (ho b hb).2⟩, fun _ => hsh.lv⟩
theorem Inv.apart (I : Inv P p Pst gs w γ ρ s t) {j : Nat} (hj : j < gs.size) : ∀ b, (γ j).own b ∨ (γ j).rd b → b ≠ p.Wg ∧ b ≠ p.Ch := fun b hb => hb.elim (fun h => (I.dj.lto j b hj h).2) fun h => (I.dj.ltr j b hj h).2
theorem mayWake_like (h : Like g g₀) : mayWake P g = mayWake P g₀ := by unfold mayWake; rw [h.frame]
theorem Inv.stepOwn (I : Inv P p Pst gs w γ ρ s t) {i : Nat} (hi : gs[i]? = some g) {es : Array Event} (hst : stepG P (i == 0) g w = .go g' w' es) (hl : (γ i).lo ≠ .out) (hmu : (γ i).lo.mute = true → es = #[]) (G : Guar (γ i).own (γ i).rd w w' es)
   (hk : Below P p Pst (ρ i) (i == 0) ⟨more (γ i).own w w', (γ i).rd, (γ i).deaf, (γ i).lo⟩ g' w') : Next P p Pst gs w sl ρ t i := by
 obtain ⟨r', hlt, hR⟩ := hk
 have hlti : i < gs.size := (Array.getElem?_eq_some_iff.1 hi).1
 have hWg : w'.heap[p.Wg]? = w.heap[p.Wg]? := G.keep _ I.dj.wg fun h => (I.dj.lto i _ hlti h).2.1 rfl
 have hCh : w'.heap[p.Ch]? = w.heap[p.Ch]? := G.keep _ I.dj.ch fun h => (I.dj.lto i _ hlti h).2.2 rfl
 have ho : ∀ b, more (γ i).own w w' b → owns γ i b ∨ (w.heap.size ≤ b ∧ b < w'.heap.size) := fun b hb => hb
 refine I.go hi hst hlt hR (fun j hj hji => ⟨⟨G.same, fun b hb => ?_⟩, fun ⟨⟨a, b, h⟩, hc⟩ => ⟨⟨a, b, by unfold WgAt; rw [hWg]; exact h⟩, Nat.lt_of_lt_of_le hc G.same.size⟩⟩) ⟨by unfold WgAt; rw [hWg]; exact I.sh.wg, let ⟨q, h⟩ := I.sh.ch; ⟨q, by rw [hCh]; exact h⟩⟩
   (by have := up_self (los γ) i; simp only [los] at this ⊢; rw [this]; exact I.pr) (I.dj.turn hlti ho (fun _ h => h) G.same.size) ?_ (.inl ⟨.inr rfl, rfl⟩) Iff.rfl Iff.rfl (fun _ => hl) (fun h1 hn hw => ?_) (fun _ h => absurd h hl)
 · refine G.keep b ?_ fun h => ?_
   · exact hb.elim (fun h => (I.dj.lto j b hj h).1) fun h => (I.dj.ltr j b hj h).1
   · exact hb.elim (fun h' => I.dj.oo i j b hlti hj (fun e => hji e.symm) h h') fun h' => I.dj.ord i j b hlti hj h h'
 · have := I.ti.app I.dj hlti (u := MemOp.ofEvents i g.frame.fn g.frame.place es) (fun op h => Go.ConcR.g_of_ofEvents op h) (fun op hop x hx => by
     obtain ⟨e, he, rfl⟩ := ops_of hop
     exact tok_ev (G.evs e he) x hx) ho G.same.size (d' := (γ i).deaf) (by rw [Deaf_own, deaf_ev G.evs, I.ti.df i hlti]; rfl)
   have e : up (rds γ) i (γ i).rd = rds γ := up_self (rds γ) i
   simp only [e]
   exact this
 · rw [hmu]
   · exact QuietE.nil _
   · rcases I.pr.who hlti with e | ⟨_, _, e | ⟨_, e⟩⟩ | ⟨e, _⟩
     · omega
     · exact absurd e (hw _)
     · simp only [los] at e
       rcases e with e | e | e | e | e
       · rw [e]; rfl
       · rw [e]; rfl
       · rw [e]; rfl
       · rw [e]; rfl
       · exact absurd e hl
     · omega
theorem Tra.tok {d : Nat} {l l' : Lo} {es : Array Event} (h : Tra p d l s es l' s') {own rd : Blks} {say : Prop} (hs1 : (∃ j, l = .spawn j true) → say) (hs2 : l = .cr → say) : ∀ e, e ∈ es → ∀ x, (MemAct.ofEvent e).touch? = some x → TOk own rd p.Wg p.Ch say x := by
 have at1 : ∀ (a : Addr) (wr : Bool), a.block = p.Wg → ∀ x, (MemAct.ofEvent ⟨.cell a, wr, true⟩).touch? = some x → TOk own rd p.Wg p.Ch say x := fun a wr ha => tok_cell (.inr (.inr ⟨ha, rfl⟩))
 intro e he x hx
 cases h with
 | mark m hm => simp at he; subst he; rw [touch_markOk hm] at hx; cases hx
 | add _ => simp [rdE, wrE] at he; rcases he with rfl | rfl <;> exact at1 _ _ rfl x hx
 | saidR =>
   simp [mk] at he; subst he
   simp [MemAct.ofEvent, MemAct.touch?] at hx
   subst hx
   exact .inr (.inr (.inr ⟨rfl, rfl, hs1 ⟨_, rfl⟩⟩))
 | done _ => simp [rdE, wrE] at he; rcases he with rfl | rfl <;> exact at1 _ _ rfl x hx
 | ld1 _ => simp [rdE] at he; subst he; exact at1 _ _ rfl x hx
 | st2 _ => simp [wrE] at he; subst he; exact at1 _ _ rfl x hx
 | rel _ =>
   simp [semEvents] at he
   rcases he with rfl | rfl | rfl | rfl
   · simp [MemAct.ofEvent, MemAct.touch?] at hx
   · exact at1 _ _ rfl x hx
   · exact at1 _ _ rfl x hx
   · simp [MemAct.ofEvent, MemAct.touch?] at hx
 | ld0 => simp [rdE] at he; subst he; exact at1 _ _ rfl x hx
 | ldv _ _ => simp [rdE] at he; subst he; exact at1 _ _ rfl x hx
 | cas _ => simp [rdE, wrE] at he; rcases he with rfl | rfl <;> exact at1 _ _ rfl x hx
 | miss _ => simp [rdE] at he; subst he; exact at1 _ _ rfl x hx
 | saidW =>
   simp [mk] at he; subst he
   simp [MemAct.ofEvent, MemAct.touch?] at hx
   subst hx
   exact .inr (.inr (.inr ⟨rfl, rfl, hs2 rfl⟩))
 | ld2 => simp [rdE] at he; subst he; exact at1 _ _ rfl x hx
 | close _ =>
   simp at he
   rcases he with rfl | rfl
   · simp [MemAct.ofEvent, MemAct.touch?] at hx
     subst hx
     exact .inr (.inr (.inl ⟨.inr rfl, rfl⟩))
   · simp [MemAct.ofEvent, MemAct.touch?] at hx
theorem quiet_one {e : Event} {d : Nat} (h : (MemAct.ofEvent e).touch? = none ∨ ((∃ ad wr, e = ⟨.cell ad, wr, true⟩) ∧ 0 < d)) : QuietE #[e] d := by
 intro j x hx
 cases j with
 | zero => simp at hx; subst hx; simpa [deafBehind] using h
 | succ j => simp at hx
theorem quiet_mute {es : Array Event} (h : ∀ e, e ∈ es → Event.mute e = true) (d : Nat) : QuietE es d := fun j e he => .inl (touch_mute (h e (Array.mem_of_getElem? he)))
theorem quiet_two {a b : Addr} {x y : Bool} {d : Nat} (h : 0 < d) : QuietE #[⟨.cell a, x, true⟩, ⟨.cell b, y, true⟩] d := by
 intro j e he
 match j, he with
 | 0, he => simp at he; subst he; exact .inr ⟨⟨_, _, rfl⟩, by simpa [deafBehind] using h⟩
 | 1, he => simp at he; subst he; exact .inr ⟨⟨_, _, rfl⟩, by simpa [deafBehind] using h⟩
 | j + 2, he => simp at he
theorem quiet_sem {a : Addr} {d : Nat} : QuietE (semEvents a) d := by
 intro j e he
 match j, he with
 | 0, he => simp [semEvents] at he; subst he; exact .inl (by simp [MemAct.ofEvent, MemAct.touch?])
 | 1, he => simp [semEvents] at he; subst he; exact .inr ⟨⟨_, _, rfl⟩, by simp [semEvents, deafBehind]⟩
 | 2, he => simp [semEvents] at he; subst he; exact .inr ⟨⟨_, _, rfl⟩, by simp [semEvents, deafBehind]⟩
 | 3, he => simp [semEvents] at he; subst he; exact .inl (by simp [MemAct.ofEvent, MemAct.touch?])
 | j + 4, he => simp [semEvents] at he
theorem Tra.quiet {d : Nat} {l l' : Lo} {es : Array Event} (h : Tra p d l s es l' s') (hl : l = .told ∨ l = .l1 ∨ l = .l2 ∨ l = .l3) : QuietE es d := by
 cases h with
 | mark m hm => exact quiet_one (.inl (touch_markOk hm))
 | done hd => exact quiet_two hd
 | ld1 hd => exact quiet_one (.inr ⟨⟨_, _, rfl⟩, hd⟩)
 | st2 hd => exact quiet_one (.inr ⟨⟨_, _, rfl⟩, hd⟩)
 | rel hd => exact quiet_sem
 | _ => simp at hl
theorem Tra.same {d : Nat} {l l' : Lo} {es : Array Event} (h : Tra p d l s es l' s') : l' = l ∨ ((∀ k, l ≠ .wk k) ∧ (∀ k, l' ≠ .wk k) ∧ l ≠ .fin ∧ l' ≠ .fin ∧ (l' = .out → (l = .told ∨ l = .l3 ∨ (l = .cs ∧ es = #[⟨.obj p.Ch, false, true⟩, ⟨.obj p.Ch, true, true⟩] ∧ d = 0)))) := by
 cases h with
 | mark m hm => exact .inl rfl
 | saidR => exact .inl rfl
 | saidW => exact .inl rfl
 | ld2 => exact .inl rfl
 | done hd => right; refine ⟨by simp, by intro k; split <;> simp, by simp, by split <;> simp, fun _ => .inl rfl⟩
 | close h0 => right; exact ⟨by simp, by simp, by simp, by simp, fun _ => .inr (.inr ⟨rfl, rfl, h0⟩)⟩
 | rel _ => right; exact ⟨by simp, by simp, by simp, by simp, fun _ => .inr (.inl rfl)⟩
 | _ => right; exact ⟨by simp, by simp, by simp, by simp, fun h => by cases h⟩
theorem sayr_late {N : Nat} (h : N = p.n + 2) : sayr p N = p.n + 1 := by unfold sayr; rw [if_pos h]
theorem Inv.spawning (I : Inv P p Pst gs w γ ρ s t) {i : Nat} (hi : i < gs.size) {j : Nat} {q : Bool} (hl : (γ i).lo = .spawn j q) : i = 0 ∧ sayr p gs.size = 0 := by
 cases I.pr with
 | spawn j' q' hN h0 hj hw =>
   refine ⟨?_, by unfold sayr; rw [if_neg]; have : j' ≤ p.n := Nat.le_trans (Nat.le_add_right _ _) hj; omega⟩
   rcases Nat.eq_zero_or_pos i with e | e
   · exact e
   · have := hw i e (by omega); simp only [los] at this; rw [hl] at this; cases this
 | late hN hm hw md =>
   exfalso
   have hl : los γ i = .spawn j q := hl
   rcases Nat.eq_zero_or_pos i with e | e
   · subst e; rcases hm with ⟨J, h, _⟩ | ⟨h, _⟩ <;> rw [hl] at h <;> cases h
   · rcases Nat.lt_or_ge p.n i with hgt | hle
     · obtain rfl : i = p.n + 1 := by omega
       rcases md.closer with ⟨B, e⟩ | ⟨B, e⟩ | e | e | e <;> rw [hl] at e <;> cases e
     · rcases hw i e hle with e | e | e | e | e | e <;> rw [hl] at e <;> cases e
theorem Inv.stepSync (I : Inv P p Pst gs w γ ρ s t) {i : Nat} (hi : gs[i]? = some g) {es : Array Event} {lo' : Lo} (hst : stepG P (i == 0) g w = .go g' w' es) (hl : (γ i).lo ≠ .out) (ht : Tra p (γ i).deaf (γ i).lo s es lo' s') (O : Only p w w') (hsh : Sh p s' w')
   (hwk : (s'.sm = s.sm ∧ s'.cl = s.cl) ∨ mayWake P g = true) (hk : Below P p Pst (ρ i) (i == 0) ⟨(γ i).own, (γ i).rd, deafBehind (γ i).deaf es, lo'⟩ g' w') : Next P p Pst gs w sl ρ t i := by
 obtain ⟨r', hlt, hR⟩ := hk
 have hlti : i < gs.size := (Array.getElem?_eq_some_iff.1 hi).1
 have hsame := ht.same
 refine I.go hi hst hlt hR (fun j hj hji => O.rely hsh (I.apart hj)) hsh (I.pr.tra hlti ht rfl) ?_ ?_ (hwk.imp (fun h => ⟨.inr h.1, h.2⟩) id) ?_ ?_ ?_ (fun h1 hn hw => ?_) (fun hi' hlo => ?_)
 · have := I.dj.turn hlti (own' := (γ i).own) (rd' := (γ i).rd) (size' := w.heap.size) (fun b h => .inl h) (fun b h => h) (Nat.le_refl _)
   rw [O.size]; exact this
 · have := I.ti.app I.dj hlti (u := MemOp.ofEvents i g.frame.fn g.frame.place es) (fun op h => Go.ConcR.g_of_ofEvents op h) (fun op hop x hx => by
     obtain ⟨e, he, rfl⟩ := ops_of hop
     have k1 : (∃ j, (γ i).lo = .spawn j true) → i = sayr p gs.size := by
       rintro ⟨j, hj⟩
       obtain ⟨a, b⟩ := I.spawning hlti hj
       rw [a, b]
     have k2 : (γ i).lo = .cr → i = sayr p gs.size := by
       intro hcr
       obtain ⟨a, b, _⟩ := I.pr.closing hlti (.inr (.inr (.inl hcr)))
       rw [sayr_late b, a]
     exact ht.tok k1 k2 e he x hx) (own' := (γ i).own) (fun b h => .inl h) (Nat.le_refl _) (d' := deafBehind (γ i).deaf es) (by rw [Deaf_own, I.ti.df i hlti]; rfl)
   have e : up (rds γ) i (γ i).rd = rds γ := up_self (rds γ) i
   rw [O.size]
   simp only [e]
   exact this
 · rcases hsame with e | ⟨a, b, _⟩
   · simp only [e]
   · exact ⟨fun ⟨k, h⟩ => absurd h (b k), fun ⟨k, h⟩ => absurd h (a k)⟩
 · rcases hsame with e | ⟨_, _, a, b, _⟩
   · simp only [e]
   · exact ⟨fun h => absurd h b, fun h => absurd h a⟩
 · intro e0 hlo
   rcases hsame with e | ⟨_, _, _, _, c⟩
   · rw [e] at hlo; exact hl hlo
   · subst e0
     have hm := I.pr.main
     simp only [los] at hm
     rcases c hlo with h | h | ⟨h, _⟩ <;> rw [h] at hm <;> simp at hm
 · refine ht.quiet ?_
   rcases I.pr.who hlti with e | ⟨_, _, e | ⟨_, e⟩⟩ | ⟨e, _⟩
   · omega
   · exact absurd e (hw _)
   · simp only [los] at e
     rcases e with e | e | e | e | e
     · exact .inl e
     · exact .inr (.inl e)
     · exact .inr (.inr (.inl e))
     · exact .inr (.inr (.inr e))
     · exact absurd e hl
   · omega
 · rcases hsame with e | ⟨_, _, _, _, c⟩
   · simp only [e] at hlo; exact absurd hlo hl
   · rcases c hlo with h | h | ⟨_, h⟩
     · have := (I.pr.workers hlti (.inl h)).2.1; omega
     · have := (I.pr.workers hlti (.inr (.inr (.inr h)))).2.1; omega
     · exact .inr ⟨h.1, h.2, by assumption⟩
theorem Inv.stepQuit (I : Inv P p Pst gs w γ ρ s t) {i : Nat} (hi : gs[i]? = some g) (h0 : i ≠ 0) {es : Array Event} (hl : (γ i).lo = .out) (hm : ∀ e, e ∈ es → Event.mute e = true) (hst : stepG P (i == 0) g w = .go g' w es)
   (hk : Below P p Pst (ρ i) (i == 0) ⟨(γ i).own, (γ i).rd, deafBehind (γ i).deaf es, .out⟩ g' w) : Next P p Pst gs w sl ρ t i := by
 obtain ⟨r', hlt, hR⟩ := hk
 have hlti : i < gs.size := (Array.getElem?_eq_some_iff.1 hi).1
 refine I.go hi hst hlt hR (fun j hj hji => RelyP.refl w) I.sh (by have := up_self (los γ) i; simp only [los, hl] at this ⊢; rw [this]; exact I.pr)
   (I.dj.turn hlti (own' := (γ i).own) (rd' := (γ i).rd) (fun b h => .inl h) (fun b h => h) (Nat.le_refl _)) ?_ (.inl ⟨.inr rfl, rfl⟩) (by simp [hl]) (by simp [hl]) (fun e => absurd e h0) (fun _ _ _ => quiet_mute hm _) (fun _ _ => .inl ⟨hl, quiet_mute hm _⟩)
 have := I.ti.app I.dj hlti (u := MemOp.ofEvents i g.frame.fn g.frame.place es) (fun op h => Go.ConcR.g_of_ofEvents op h) (fun op hop x hx => by
     obtain ⟨e, he, rfl⟩ := ops_of hop
     rw [show ({ g := i, fn := g.frame.fn, pos := g.frame.place, act := MemAct.ofEvent e } : MemOp).act = MemAct.ofEvent e from rfl, touch_mute (hm e he)] at hx
     cases hx) (own' := (γ i).own) (fun b h => .inl h) (Nat.le_refl _) (d' := deafBehind (γ i).deaf es) (by rw [Deaf_own, I.ti.df i hlti]; rfl)
 have e : up (rds γ) i (γ i).rd = rds γ := up_self (rds γ) i
 simp only [e]
 exact this
theorem Inv.lt3run {gs' : Array Goroutine} {i : Nat} (hsz : gs'.size = gs.size) (hi : gs[i]? = some g) (hs : g.status = .running) (hi' : gs'[i]? = some g') (hs' : g'.status ≠ .running) (ho : ∀ j, j ≠ i → gs'[j]? = gs[j]?) : Lt3 (meas gs' ρ) (meas gs ρ) := by
 unfold meas
 rw [hsz]
 refine Prod.Lex.right _ (Prod.Lex.right _ (nrun_lt hi hs hi' hs' (fun j _ h => ho j h) (Array.getElem?_eq_some_iff.1 hi).1))
theorem Inv.stepWait (I : Inv P p Pst gs w γ ρ s t) {i : Nat} (hi : gs[i]? = some g) (hlike : Like g g₀) (hs : g.status = .running) (hs0 : g₀.status = .running) (ho : g₀.offers = none) (hl : (γ i).lo = .cr) (hR : RunR P p Pst (ρ i) (i == 0) (γ i) g₀ w)
   (h0 : s.sm = 0 → stepG P (i == 0) g₀ w = .go { g₀ with status := .blocked } w #[])
   (h1 : s.sm = 1 → ∃ g' w', stepG P (i == 0) g₀ w = .go g' w' (semEvents (smA p.Wg)) ∧ Only p w w' ∧ Sh p ⟨0, 0, 0, false⟩ w' ∧ Below P p Pst (ρ i) (i == 0) ⟨(γ i).own, (γ i).rd, (γ i).deaf, .cs⟩ g' w') : Next P p Pst gs w sl ρ t i := by
 have hlti : i < gs.size := (Array.getElem?_eq_some_iff.1 hi).1
 obtain ⟨hin, hN, _, _⟩ := I.pr.closing hlti (.inr (.inr (.inl hl)))
 have hposs := I.pr.poss hlti
 simp only [los, hl] at hposs
 have hsm : s.sm = 0 ∨ s.sm = 1 := by rcases hposs.2 with ⟨_, h⟩ | ⟨_, _, h⟩ <;> omega
 rcases hsm with h | h
 · have hst : stepG P (i == 0) g w = .go { g₀ with status := .blocked } w #[] := by rw [hlike.step]; exact h0 h
   have hwk : Go.Conc.woken P g { g₀ with status := .blocked } w = id := by funext o; simp [Go.Conc.woken]
   have hrun := runT_crowd_go (sl := sl) hi hst
   rw [hwk, Array.map_id] at hrun
   have get : ∀ j, (gs.setIfInBounds i { g₀ with status := .blocked })[j]? = if j = i then some { g₀ with status := .blocked } else gs[j]? := fun j => by
     by_cases e : j = i
     · subst e; rw [if_pos rfl, Array.getElem?_setIfInBounds_self_of_lt hlti]
     · rw [if_neg e, Array.getElem?_setIfInBounds_ne (fun x => e x.symm)]
   have et : t ++ MemOp.ofEvents i g.frame.fn g.frame.place #[] = t := by simp [MemOp.ofEvents]
   refine ⟨_, w, sl, γ, ρ, s, _, hrun, Inv.lt3run (g' := { g₀ with status := .blocked }) (by simp) hi hs (by rw [get, if_pos rfl]) (by simp) (fun j e => by rw [get, if_neg e]), ?_⟩
   rw [et]
   have hsz : (gs.setIfInBounds i { g₀ with status := .blocked }).size = gs.size := by simp
   refine ⟨by rw [hsz]; exact I.pr, I.sh, by rw [hsz]; exact I.dj, by rw [hsz]; exact I.ti, fun j x hj => ?_, fun a ha hb j k x hj hlj => ?_, fun j a b c d => I.lf j a b (by rwa [hsz] at c) d, fun a b => I.cl (by rwa [hsz] at a) b, I.fi⟩
   · rw [get] at hj
     by_cases e : j = i
     · subst e; rw [if_pos rfl] at hj; cases hj
       exact .bl g₀ rfl ho hs0 hl h hR
     · rw [if_neg e] at hj; exact I.sit j x hj
   · rw [get, if_neg (by omega)] at ha
     rw [get] at hj
     by_cases e : j = i
     · subst e; rw [hl] at hlj; cases hlj
     · rw [if_neg e] at hj; exact I.rv a ha hb j k x hj hlj
 · obtain ⟨g', w', hst', O, hsh, hk⟩ := h1 h
   obtain ⟨r', hlt, hR'⟩ := hk
   have hst : stepG P (i == 0) g w = .go g' w' (semEvents (smA p.Wg)) := by rw [hlike.step]; exact hst'
   have hcl : s.cl = false := hposs.1
   refine I.go hi hst hlt hR' (fun j hj hji => O.rely hsh (I.apart hj)) hsh (I.pr.acq hlti hl h) ?_ ?_ (.inl ⟨.inl rfl, hcl.symm⟩) (by simp [hl]) (by simp [hl]) (fun e => by omega) (fun a b => by omega) (fun _ h => by cases h)
   · have := I.dj.turn hlti (own' := (γ i).own) (rd' := (γ i).rd) (size' := w.heap.size) (fun b h => .inl h) (fun b h => h) (Nat.le_refl _)
     rw [O.size]; exact this
   · have at1 : ∀ (a : Addr) (wr : Bool), a.block = p.Wg → ∀ x, (MemAct.ofEvent ⟨.cell a, wr, true⟩).touch? = some x → TOk (owns γ i) (rds γ i) p.Wg p.Ch (i = sayr p gs.size) x := fun a wr ha => tok_cell (.inr (.inr ⟨ha, rfl⟩))
     have := I.ti.app I.dj hlti (u := MemOp.ofEvents i g.frame.fn g.frame.place (semEvents (smA p.Wg))) (fun op h => Go.ConcR.g_of_ofEvents op h) (fun op hop x hx => by
       obtain ⟨e, he, rfl⟩ := ops_of hop
       simp [semEvents] at he
       rcases he with rfl | rfl | rfl | rfl
       · simp [MemAct.ofEvent, MemAct.touch?] at hx
       · exact at1 _ _ rfl x hx
       · exact at1 _ _ rfl x hx
       · simp [MemAct.ofEvent, MemAct.touch?] at hx) (own' := (γ i).own) (fun b h => .inl h) (Nat.le_refl _) (d' := (γ i).deaf) (by rw [Deaf_own, I.ti.df i hlti]; simp [deafs, deafBehind, semEvents])
     have e : up (rds γ) i (γ i).rd = rds γ := up_self (rds γ) i
     rw [O.size]
     simp only [e]
     exact this
end
end Go.Proofs.YtpdojmebloekgaaDoor.Nice.Co
namespace Go.Proofs.YtpdojmebloekgaaDoor.Nice.Co
open Go Go.Conc
open Go.ConcR (KK WgAt stA smA mk)
set_option linter.unusedVariables false
set_option linter.unusedSimpArgs false
section
variable {P : Program} {p : Pr} {Pst : Value → World → Prop} {gs gs' : Array Goroutine} {w w' : World} {γ : Nat → Gam} {ρ : Nat → Rank} {s s' : Sst} {t : Trace} {g g₀ g' o : Goroutine} {sl : Option (Nat × Nat)} {r : Rank} {Γ : Gam} {main : Bool}
theorem Sit.rely (S : Sit P p Pst r Γ s main o w) (hr : RelyP p Γ w w') : Sit P p Pst r Γ s main o w' := by
 cases S with
 | on g₀ hk hs hs0 h => exact .on g₀ hk hs hs0 (h.rely hr)
 | fin hs hm hl hd => exact .fin hs hm hl hd
 | bl g₀ hg ho hs0 hl hsm h => exact .bl g₀ hg ho hs0 hl hsm (h.rely hr)
 | ps k hm hl hd g₁ v z M hg hM hh ht hk => exact .ps k hm hl hd g₁ v z M hg hM (fun b x hb => by rw [hr.ry.keep b (hM b (by rw [hb]; simp))]; exact hh b x hb) ht hk
 | pr J g₁ z g₀ hm hg hcl h => exact .pr J g₁ z g₀ hm hg hcl (h.rely hr)
theorem setChan_only {q : Nat} {d q' : Nat} (h : w.heap[p.Ch]? = some (.chan 0 #[] false q q false)) (hne : p.Wg ≠ p.Ch) : Only p w ((w.at d).setChan p.Ch 0 #[] false q' q' false) ∧ ((w.at d).setChan p.Ch 0 #[] false q' q' false).heap[p.Ch]? = some (.chan 0 #[] false q' q' false) ∧ ((w.at d).setChan p.Ch 0 #[] false q' q' false).heap[p.Wg]? = w.heap[p.Wg]? := by
 have hlt : p.Ch < w.heap.size := (Array.getElem?_eq_some_iff.1 h).1
 refine ⟨⟨⟨rfl, rfl, rfl, by simp [World.setChan, World.at]⟩, by simp [World.setChan, World.at], fun b _ hb => by simp [World.setChan, World.at, Array.getElem?_setIfInBounds_ne (fun e => hb e.symm)]⟩, by simp [World.setChan, World.at, hlt], by simp [World.setChan, World.at, Array.getElem?_setIfInBounds_ne (fun e => hne e.symm)]⟩
theorem Inv.meet (I : Inv P p Pst gs w γ ρ s t) {i : Nat} (hlti : i < gs.size) (h0 : i ≠ 0) {a : Goroutine} {k : Nat} (hl : (γ i).lo = .wk k) (hd : (γ i).deaf = 0) {g₁ : Goroutine} {v : Value} {M : Imm} (hM : ∀ b, M b ≠ none → (γ i).own b ∨ (γ i).rd b) (hh : Holds M w) (ht : p.Tell k M v)
   (hk : ∀ w₁, WgLv p w₁ → Below P p Pst (ρ i) false ⟨no, no, 0, .told⟩ (Go.Conc.served g₁ undef) w₁)
   {J : List Nat} {ga : Goroutine} {z : Value} (hR : RecvN P p (Below P p Pst (ρ 0)) (γ 0) g₀ w J ga z) {q d : Nat} (hch : w.heap[p.Ch]? = some (.chan 0 #[] false q q false))
   (hsz : gs'.size = gs.size) (e0 : gs'[0]? = some (Go.Conc.served ga (recvd true v true))) (ei : gs'[i]? = some (Go.Conc.served g₁ undef)) (eo : ∀ j, j ≠ 0 → j ≠ i → gs'[j]? = gs[j]?)
   {fi : FuncId} {pi : String} {fm : FuncId} {pm : String} : ∃ γ' ρ', Lt3 (meas gs' ρ') (meas gs ρ) ∧ Inv P p Pst gs' ((w.at d).setChan p.Ch 0 #[] false (q + 1) (q + 1) false) γ' ρ' s (t ++ meetOps i fi pi fm pm p.Ch q 0) := by
 have hpos := I.pr.pos
 obtain ⟨O, hch', hwg'⟩ := setChan_only (d := d) (q' := q + 1) hch I.dj.ne
 generalize (w.at d).setChan p.Ch 0 #[] false (q + 1) (q + 1) false = w' at O hch' hwg'
 obtain ⟨hik, hkn, hkJ, hN, hcl, hproto⟩ := I.pr.tell hlti hl hR.hl
 have hsh : Sh p s w' := ⟨by unfold WgAt; rw [hwg']; exact I.sh.wg, q + 1, by rw [hcl]; exact hch'⟩
 have hrel : ∀ j, j < gs.size → RelyP p (γ j) w w' := fun j hj => O.rely hsh (I.apart hj)
 have hdis : ∀ b, M b ≠ none → ¬ (γ 0).own b ∧ b ≠ p.Wg ∧ b ≠ p.Ch := fun b hb => by
   rcases hM b hb with h' | h'
   · exact ⟨fun h => I.dj.oo 0 i b hpos hlti (fun e => h0 e.symm) h h', (I.dj.lto i b hlti h').2⟩
   · exact ⟨fun h => I.dj.ord 0 i b hpos hlti h h', (I.dj.ltr i b hlti h').2⟩
 have hhw : Holds M w' := fun b x hb => by rw [(hrel i hlti).ry.keep b (hM b (by rw [hb]; simp))]; exact hh b x hb
 obtain ⟨r0, hr0, hR0⟩ := hR.hk k M v w' (hrel 0 hpos) hkn hkJ ht hhw hdis
 obtain ⟨ri, hri, hRi⟩ := hk w' hsh.lv
 refine ⟨up (up γ i ⟨no, no, 0, .told⟩) 0 ⟨(γ 0).own, fun b => (γ 0).rd b ∨ M b ≠ none, 0, .recv (k :: J)⟩, up (up ρ i ri) 0 r0, ?_, ?_⟩
 · unfold meas
   rw [up_same]
   exact Prod.Lex.left _ _ hr0
 have g0 : ∀ j, j ≠ 0 → j ≠ i → up (up γ i ⟨no, no, 0, .told⟩) 0 ⟨(γ 0).own, fun b => (γ 0).rd b ∨ M b ≠ none, 0, .recv (k :: J)⟩ j = γ j := fun j a b => by rw [up_ne _ _ a, up_ne _ _ b]
 have gi : up (up γ i ⟨no, no, 0, .told⟩) 0 ⟨(γ 0).own, fun b => (γ 0).rd b ∨ M b ≠ none, 0, .recv (k :: J)⟩ i = ⟨no, no, 0, .told⟩ := by rw [up_ne _ _ h0, up_same]
 have gz : up (up γ i ⟨no, no, 0, .told⟩) 0 ⟨(γ 0).own, fun b => (γ 0).rd b ∨ M b ≠ none, 0, .recv (k :: J)⟩ 0 = ⟨(γ 0).own, fun b => (γ 0).rd b ∨ M b ≠ none, 0, .recv (k :: J)⟩ := up_same _ _ _
 generalize hγ' : up (up γ i ⟨no, no, 0, .told⟩) 0 ⟨(γ 0).own, fun b => (γ 0).rd b ∨ M b ≠ none, 0, .recv (k :: J)⟩ = γ' at g0 gi gz
 have hlos : los γ' = up (up (los γ) i .told) 0 (.recv (k :: J)) := by rw [← hγ', los_up, los_up]
 have hno : ∀ op, op ∈ meetOps i fi pi fm pm p.Ch q 0 → op.act.touch? = none := fun op h => (meet_still op h).1
 refine ⟨by rw [hsz, hlos]; exact hproto, hsh, ?_, ?_, fun j x hj => ?_, fun x hx hb => ?_, fun j j1 jn jl hw => ?_, fun _ hc => ?_, fun hf => ?_⟩
 · rw [hsz, O.size]
   have own : ∀ j b, owns γ' j b → owns γ j b := fun j b h => by
     by_cases e : j = 0
     · subst e; simp only [owns, gz] at h; exact h
     · by_cases e' : j = i
       · subst e'; simp only [owns, gi] at h; exact h.elim
       · simp only [owns, g0 j e e'] at h; exact h
   have rd : ∀ j b, rds γ' j b → rds γ j b ∨ (j = 0 ∧ M b ≠ none) := fun j b h => by
     by_cases e : j = 0
     · subst e; simp only [rds, gz] at h; exact h.imp id fun h => ⟨rfl, h⟩
     · by_cases e' : j = i
       · subst e'; simp only [rds, gi] at h; exact h.elim
       · simp only [rds, g0 j e e'] at h; exact .inl h
   refine ⟨fun a b x ha hb hab h1 h2 => I.dj.oo a b x ha hb hab (own _ _ h1) (own _ _ h2), fun a b x ha hb h1 h2 => ?_, fun a b ha h => I.dj.lto a b ha (own _ _ h), fun a b ha h => ?_, I.dj.wg, I.dj.ch, I.dj.ne⟩
   · rcases rd b x h2 with h2 | ⟨_, hMx⟩
     · exact I.dj.ord a b x ha hb (own _ _ h1) h2
     · by_cases e : a = i
       · subst e; simp only [owns, gi] at h1; exact h1
       · rcases hM x hMx with h' | h'
         · exact I.dj.oo a i x ha hlti e (own _ _ h1) h'
         · exact I.dj.ord a i x ha hlti (own _ _ h1) h'
   · rcases rd a b h with h | ⟨_, hMb⟩
     · exact I.dj.ltr a b ha h
     · rcases hM b hMb with h' | h'
       · exact I.dj.lto i b hlti h'
       · exact I.dj.ltr i b hlti h'
 · rw [hsz, O.size]
   have h1 := I.ti.meet hlti hpos (show deafs γ 0 = 0 from hR.hd) (show deafs γ i = 0 from hd) (fi := fi) (pi := pi) (fm := fm) (pm := pm) (c := p.Ch) (k := q) (cap := 0) (rd0 := fun b => (γ 0).rd b ∨ M b ≠ none) (fun b hb => by
     rcases hb with h | h
     · exact .inl h
     · exact .inr (hM b h))
   have hde : deafs γ' = deafs γ := by
     funext j
     by_cases e : j = 0
     · subst e; simp only [deafs, gz]; exact hR.hd.symm
     · by_cases e' : j = i
       · subst e'; simp only [deafs, gi]; exact hd.symm
       · simp only [deafs, g0 j e e']
   rw [hde]
   refine h1.less (fun j b hj h => ?_) (fun j b hj h => ?_)
   · by_cases e : j = 0
     · subst e; simp only [owns, gz] at h; exact h
     · by_cases e' : j = i
       · subst e'; simp only [owns, gi] at h; exact h.elim
       · simp only [owns, g0 j e e'] at h; exact h
   · left
     by_cases e : j = 0
     · subst e; simp only [rds, gz] at h; rw [up_same]; exact h
     · rw [up_ne _ _ e]
       by_cases e' : j = i
       · subst e'; simp only [rds, gi] at h; exact h.elim
       · simp only [rds, g0 j e e'] at h; exact h
 · by_cases e : j = 0
   · subst e
     rw [e0] at hj; cases hj
     rw [gz, up_same]
     exact Sit.of_run hR0 (.inr (by simp))
   · rw [up_ne _ _ e]
     by_cases e' : j = i
     · subst e'
       rw [ei] at hj; cases hj
       rw [gi, up_same, show (j == 0) = false by simp [e]]
       exact Sit.of_run hRi (.inl rfl)
     · rw [eo j e e'] at hj
       rw [g0 j e e', up_ne _ _ e']
       exact (I.sit j x hj).rely (hrel j (Array.getElem?_eq_some_iff.1 hj).1)
 · rw [e0] at hx; cases hx; cases hb
 · rw [hsz] at jl
   by_cases e' : j = i
   · subst e'
     intro x hx hc
     rcases g?_new hx with ⟨hlt, hx'⟩ | ⟨hge, _⟩
     · obtain ⟨op, ho, hog⟩ := Option.map_eq_some_iff.1 hx'
       have hkn : Knows t j x := by have := knows_own ho; rwa [hog] at this
       exact meet_knows (by rw [I.ti.df j hlti]; exact hd) (by rw [I.ti.df 0 hpos]; exact hR.hd) hkn
     · obtain ⟨y, hy⟩ := counts_touch hc
       rcases touch_new hy with ⟨hlt, _⟩ | ⟨_, op, _, hou, hot⟩
       · omega
       · rw [hno op hou] at hot; cases hot
   · rw [g0 j (by omega) e'] at hw
     exact (I.lf j j1 jn jl hw).other fun op h => .inr (hno op h)
 · have hne : p.n + 1 ≠ i := by
     rintro rfl
     omega
   rw [g0 _ (by omega) hne] at hc
   exact (I.cl hN hc).other fun op h => .inr (hno op h)
 · rw [gz] at hf; cases hf
theorem Inv.ends (I : Inv P p Pst gs w γ ρ s t) {a : Goroutine} (ha : gs[0]? = some a) {J : List Nat} {ga : Goroutine} {z : Value} (hR : RecvN P p (Below P p Pst (ρ 0)) (γ 0) g₀ w J ga z) (hcl : s.cl = true) {fm : FuncId} {pm : String} :
   ∃ γ' ρ', Lt3 (meas (gs.setIfInBounds 0 (Go.Conc.served ga (recvd true z false))) ρ') (meas gs ρ) ∧ Inv P p Pst (gs.setIfInBounds 0 (Go.Conc.served ga (recvd true z false))) w γ' ρ' s (t ++ #[{ g := 0, fn := fm, pos := pm, act := .recvClosed p.Ch }]) := by
 have hpos := I.pr.pos
 obtain ⟨hJ, hN, hout, hproto⟩ := I.pr.ends hR.hl hcl
 obtain ⟨r0, hr0, hR0⟩ := hR.hc w (.refl w) hJ
 have hsz : (gs.setIfInBounds 0 (Go.Conc.served ga (recvd true z false))).size = gs.size := by simp
 have get : ∀ j, (gs.setIfInBounds 0 (Go.Conc.served ga (recvd true z false)))[j]? = if j = 0 then some (Go.Conc.served ga (recvd true z false)) else gs[j]? := fun j => by
   by_cases e : j = 0
   · subst e; rw [if_pos rfl, Array.getElem?_setIfInBounds_self_of_lt hpos]
   · rw [if_neg e, Array.getElem?_setIfInBounds_ne (fun x => e x.symm)]
 have hno : ∀ op, op ∈ (#[{ g := 0, fn := fm, pos := pm, act := .recvClosed p.Ch }] : Trace) → op.act.touch? = none := fun op h => by simp at h; subst h; rfl
 have hg0 : ∀ op, op ∈ (#[{ g := 0, fn := fm, pos := pm, act := .recvClosed p.Ch }] : Trace) → op.g = 0 := fun op h => by simp at h; subst h; rfl
 refine ⟨up γ 0 ⟨(γ 0).own, (γ 0).rd, 0, .fin⟩, up ρ 0 r0, by unfold meas; rw [up_same]; exact Prod.Lex.left _ _ hr0, ?_⟩
 refine ⟨by rw [hsz, los_up]; exact hproto, I.sh, ?_, ?_, fun j x hj => ?_, fun x hx hb => ?_, fun j j1 jn jl hw => ?_, fun hN' hc => ?_, fun hf => ?_⟩
 · rw [hsz, owns_up, rds_up]
   exact I.dj.turn hpos (fun b h => .inl h) (fun b h => h) (Nat.le_refl _)
 · rw [hsz, owns_up, rds_up, deafs_up]
   have := I.ti.app I.dj hpos (u := #[{ g := 0, fn := fm, pos := pm, act := .recvClosed p.Ch }]) hg0 (fun op h x hx => by rw [hno op h] at hx; cases hx) (own' := (γ 0).own) (fun b h => .inl h) (Nat.le_refl _) (d' := 0) (by
     rw [Deaf_push]; simp [deafStep]; rw [I.ti.df 0 hpos]; exact hR.hd)
   have e : up (rds γ) 0 (γ 0).rd = rds γ := up_self (rds γ) 0
   simp only [e]; exact this
 · rw [get] at hj
   by_cases e : j = 0
   · subst e
     rw [if_pos rfl] at hj; cases hj
     rw [up_same, up_same]
     exact Sit.of_run hR0 (.inr (by simp))
   · rw [if_neg e] at hj
     rw [up_ne _ _ e, up_ne _ _ e]
     exact I.sit j x hj
 · rw [get, if_pos rfl] at hx; cases hx; cases hb
 · rw [hsz] at jl
   rw [up_ne _ _ (by omega)] at hw
   exact (I.lf j j1 jn jl hw).other fun op h => .inr (hno op h)
 · rw [hsz] at hN'
   rw [up_ne _ _ (by omega)] at hc
   exact (I.cl hN' hc).other fun op h => .inr (hno op h)
 · obtain ⟨q, h1, h2, h3, h4⟩ := I.cl hN hout
   have hl := lt_of_act? h1
   have hnew : (t ++ #[({ g := 0, fn := fm, pos := pm, act := .recvClosed p.Ch } : MemOp)])[t.size]? = some { g := 0, fn := fm, pos := pm, act := .recvClosed p.Ch } := by simp
   have hheard : (t ++ #[({ g := 0, fn := fm, pos := pm, act := .recvClosed p.Ch } : MemOp)]).heard t.size := ⟨0, by simp only [Trace.g?, hnew, Option.map_some], by rw [deaf_old (Nat.le_refl _)]; exact (I.ti.df 0 hpos).trans hR.hd⟩
   have edge : HappensBefore (t ++ #[({ g := 0, fn := fm, pos := pm, act := .recvClosed p.Ch } : MemOp)]) q t.size := .single (.inr ⟨.closed (c := p.Ch) (by rw [act?_old hl]; exact h1) (by rw [act?_of hnew]), (heard_old hl).2 h3, hheard⟩)
   intro x hx hc
   rcases g?_new hx with ⟨hlt, hx'⟩ | ⟨hge, _⟩
   · have hb := (h4 x hx' ((counts_old hlt).1 hc)).app #[({ g := 0, fn := fm, pos := pm, act := .recvClosed p.Ch } : MemOp)]
     exact ⟨t.size, _, hnew, rfl, .inr (hb.hb edge)⟩
   · obtain ⟨y, hy⟩ := counts_touch hc
     rcases touch_new hy with ⟨hlt, _⟩ | ⟨_, op, _, hou, hot⟩
     · omega
     · rw [hno op hou] at hot; cases hot
theorem Sit.offers_send (S : Sit P p Pst r Γ s main o w) : offersAt o p.Ch true = [] ∨ (offersAt o p.Ch true = [0] ∧ ∃ k g₁ v z M, Γ.lo = .wk k ∧ Γ.deaf = 0 ∧ o = parked g₁ #[scase p.Ch v z] .send ∧ (∀ b, M b ≠ none → Γ.own b ∨ Γ.rd b) ∧ Holds M w ∧ p.Tell k M v ∧ main = false ∧ ∀ w₁, WgLv p w₁ → Below P p Pst r false ⟨no, no, 0, .told⟩ (Go.Conc.served g₁ undef) w₁) := by
 cases S with
 | on g₀ hk hs => exact .inl (offersAt_of_not_blocked (by rw [hs]; simp) _ _)
 | fin hs => exact .inl (offersAt_of_not_blocked (by rw [hs]; simp) _ _)
 | bl g₀ hg ho => left; rw [hg]; simp [offersAt, ho]
 | ps k hm hl hd g₁ v z M hg hM hh ht hk =>
   right
   refine ⟨by rw [hg, offersAt_parked_send, if_pos rfl], k, g₁, v, z, M, hl, hd, hg, hM, hh, ht, hm, hk⟩
 | pr J g₁ z g₀ hm hg => left; rw [hg, offersAt_parked_recv']
theorem Sit.offers_recv (S : Sit P p Pst r Γ s main o w) : offersAt o p.Ch false = [] ∨ (offersAt o p.Ch false = [0] ∧ main = true ∧ o.status = .blocked ∧ ∃ J g₁ z g₀, o = parked g₁ #[rcase p.Ch z] (.recv true) ∧ s.cl = false ∧ RecvN P p (Below P p Pst r) Γ g₀ w J g₁ z) := by
 cases S with
 | on g₀ hk hs => exact .inl (offersAt_of_not_blocked (by rw [hs]; simp) _ _)
 | fin hs => exact .inl (offersAt_of_not_blocked (by rw [hs]; simp) _ _)
 | bl g₀ hg ho => left; rw [hg]; simp [offersAt, ho]
 | ps k hm hl hd g₁ v z M hg => left; rw [hg, offersAt_parked_send']
 | pr J g₁ z g₀ hm hg hcl h => exact .inr ⟨by rw [hg, offersAt_parked_recv, if_pos rfl], hm, by rw [hg]; rfl, J, g₁, z, g₀, hg, hcl, h⟩
theorem get_stand {i j : Nat} {x : Goroutine} (h : (gs.setIfInBounds i ph)[j]? = some x) : (j = i ∧ x = ph) ∨ (j ≠ i ∧ gs[j]? = some x) := getElem?_stand gs i j x h
theorem Inv.park (I : Inv P p Pst gs w γ ρ s t) {i : Nat} (hi : gs[i]? = some g) (hs : g.status = .running) (hb : g'.status = .blocked) (S : Sit P p Pst (ρ i) (γ i) s (i == 0) g' w)
   (hrv : (i = 0 → ∀ (j k : Nat) (x : Goroutine), gs[j]? = some x → (γ j).lo = .wk k → x.status = .running) ∧ (i ≠ 0 → ∀ a, gs[0]? = some a → a.status = .blocked → False)) :
   Lt3 (meas (gs.setIfInBounds i g') ρ) (meas gs ρ) ∧ Inv P p Pst (gs.setIfInBounds i g') w γ ρ s t := by
 have hlti : i < gs.size := (Array.getElem?_eq_some_iff.1 hi).1
 have hsz : (gs.setIfInBounds i g').size = gs.size := by simp
 have get : ∀ j, (gs.setIfInBounds i g')[j]? = if j = i then some g' else gs[j]? := fun j => by
   by_cases e : j = i
   · subst e; rw [if_pos rfl, Array.getElem?_setIfInBounds_self_of_lt hlti]
   · rw [if_neg e, Array.getElem?_setIfInBounds_ne (fun x => e x.symm)]
 refine ⟨Inv.lt3run (g' := g') hsz hi hs (by rw [get, if_pos rfl]) (by rw [hb]; simp) (fun j e => by rw [get, if_neg e]), by rw [hsz]; exact I.pr, I.sh, by rw [hsz]; exact I.dj, by rw [hsz]; exact I.ti, fun j x hj => ?_, fun a ha hab j k x hj hl => ?_, fun j a b c d => I.lf j a b (by rwa [hsz] at c) d, fun a b => I.cl (by rwa [hsz] at a) b, I.fi⟩
 · rw [get] at hj
   by_cases e : j = i
   · subst e; rw [if_pos rfl] at hj; cases hj; exact S
   · rw [if_neg e] at hj; exact I.sit j x hj
 · rw [get] at ha hj
   by_cases e0 : (0 : Nat) = i
   · subst e0
     by_cases e : j = 0
     · subst e
       have := I.pr.main
       simp only [los] at this
       rw [hl] at this
       simp at this
     · rw [if_neg e] at hj
       exact hrv.1 rfl j k x hj hl
   · rw [if_neg e0] at ha
     exact (hrv.2 (fun x => e0 x.symm) a ha hab).elim
theorem Inv.stepSend (I : Inv P p Pst gs w γ ρ s t) {i : Nat} (hi : gs[i]? = some g) (hs : g.status = .running) (h0 : i ≠ 0) {k : Nat} (hl : (γ i).lo = .wk k) (hd : (γ i).deaf = 0) {g₁ : Goroutine} {v z : Value} {M : Imm} (hM : ∀ b, M b ≠ none → (γ i).own b ∨ (γ i).rd b) (hh : Holds M w) (ht : p.Tell k M v)
   (hst : stepG P (i == 0) g w = .comm g₁ #[scase p.Ch v z] true .send w #[]) (hk : ∀ w₁, WgLv p w₁ → Below P p Pst (ρ i) false ⟨no, no, 0, .told⟩ (Go.Conc.served g₁ undef) w₁) : Next P p Pst gs w sl ρ t i := by
 have hlti : i < gs.size := (Array.getElem?_eq_some_iff.1 hi).1
 have hpos := I.pr.pos
 obtain ⟨a, ha⟩ : ∃ a, gs[0]? = some a := ⟨_, Array.getElem?_eq_getElem hpos⟩
 -- the channel is open
 have hcl : s.cl = false := by
   cases hP : I.pr with
   | spawn _ _ _ _ _ _ hs => rw [hs]
   | late hN hm hw md =>
     cases md with
     | opn B hb ho hB hs => rw [hs]
     | opc B hb ho hB hs => rw [hs]
     | reg hb ho hB hs => rw [hs]
     | last hb L _ _ hL => rcases hL with ⟨_, hs⟩ | ⟨_, hs⟩ <;> rw [hs]
     | sema hb ho hs => rw [hs]
     | done hb ho hs => rw [hs]
     | shut hb ho hs =>
       exfalso
       rcases Nat.lt_or_ge p.n i with h | h
       · have : i = p.n + 1 := by omega
         subst this; simp only [los] at hb; rw [hl] at hb; cases hb
       · have := ho i (by omega) h; simp only [los] at this; rw [hl] at this; cases this
 obtain ⟨q, hch⟩ := I.sh.ch
 rw [hcl] at hch
 have hoth : ∀ (j : Nat) (x : Goroutine), j ≠ 0 → (gs.setIfInBounds i ph)[j]? = some x → offersAt x p.Ch false = [] := by
   intro j x hj hx
   rcases get_stand hx with ⟨rfl, rfl⟩ | ⟨hji, hx⟩
   · rfl
   · rcases (I.sit j x hx).offers_recv with h | ⟨_, hm, _⟩
     · exact h
     · simp at hm; exact absurd hm hj
 have ha' : (gs.setIfInBounds i ph)[0]? = some a := by rw [Array.getElem?_setIfInBounds_ne h0]; exact ha
 rcases (I.sit 0 a ha).offers_recv with h | ⟨hof, _, _, J, ga, za, g₀, hga, _, hR⟩
 · -- nobody listens: it is parked
   have hpn : partners (gs.setIfInBounds i ph) p.Ch false = [] := partners_nil fun j x hx => by
     by_cases e : j = 0
     · subst e; rw [ha'] at hx; cases hx; exact h
     · exact hoth j x e hx
   have hrun := crowd_waits (sl := sl) hi hst (fun cc hcc => by
     simp at hcc; subst hcc
     exact ways_send_none hch (Nat.zero_le _) hpn)
   have hab : a.status ≠ .blocked := by
     cases I.sit 0 a ha with
     | on _ _ hs => rw [hs]; simp
     | fin hs => rw [hs]; simp
     | bl _ _ _ _ hl =>
       have := I.pr.main
       simp only [los] at this; rw [hl] at this; simp at this
     | ps _ hm => cases hm
     | pr J g₁ z g₀ hm hg => rw [hg, offersAt_parked_recv, if_pos rfl] at h; cases h
   obtain ⟨h1, h2⟩ := I.park hi hs (g' := parked g₁ #[scase p.Ch v z] .send) rfl (.ps k (by simp [h0]) hl hd g₁ v z M rfl hM hh ht hk) ⟨fun e => absurd e h0, fun _ x hx hb => by rw [ha] at hx; cases hx; exact hab hb⟩
   refine ⟨_, _, sl, γ, ρ, s, _, hrun, h1, ?_⟩
   have et : t ++ MemOp.ofEvents i g.frame.fn g.frame.place #[] = t := by simp [MemOp.ofEvents]
   rw [et]; exact h2
 · -- the caller listens
   have hp1 : partners (gs.setIfInBounds i ph) p.Ch false = [(0, 0)] := by
     rw [partners_one ha' fun j x hj hx => hoth j x hj hx, hof]; rfl
   have hrun := crowd_send_meets (sl := sl) hi hst hch (fun e => h0 e.symm) (by rw [ha, hga]) hp1
   rw [finishComm_recv, finishComm_send] at hrun
   obtain ⟨γ', ρ', h1, h2⟩ := I.meet (gs' := (gs.setIfInBounds 0 (Go.Conc.served ga (recvd true v true))).setIfInBounds i (Go.Conc.served g₁ undef)) (a := a) hlti h0 hl hd hM hh ht hk hR (d := w.drawn) hch (by simp)
     (by rw [Array.getElem?_setIfInBounds_ne h0, Array.getElem?_setIfInBounds_self_of_lt hpos]) (by rw [Array.getElem?_setIfInBounds_self_of_lt (by simpa using hlti)])
     (fun j j0 ji => by rw [Array.getElem?_setIfInBounds_ne (fun e => ji e.symm), Array.getElem?_setIfInBounds_ne (fun e => j0 e.symm)]) (fi := g₁.frame.fn) (pi := g₁.frame.place) (fm := ga.frame.fn) (pm := ga.frame.place)
   refine ⟨_, _, sl, γ', ρ', s, _, hrun, h1, ?_⟩
   have et : t ++ (MemOp.ofEvents i g.frame.fn g.frame.place #[] ++ meetOps i g₁.frame.fn g₁.frame.place ga.frame.fn ga.frame.place p.Ch q 0) = t ++ meetOps i g₁.frame.fn g₁.frame.place ga.frame.fn ga.frame.place p.Ch q 0 := by simp [MemOp.ofEvents]
   have e2 : (w.at w.drawn).setChan p.Ch 0 #[] false (q + 1) (q + 1) false = w.setChan p.Ch 0 #[] false (q + 1) (q + 1) false := rfl
   rw [e2] at h2
   rw [← et] at h2
   exact h2
theorem Inv.stepRecv (I : Inv P p Pst gs w γ ρ s t) (hi : gs[0]? = some g) (hs : g.status = .running) (hlike : Like g g₀) {J : List Nat} {ga : Goroutine} {z : Value} (hR : RecvN P p (Below P p Pst (ρ 0)) (γ 0) g₀ w J ga z) : Next P p Pst gs w sl ρ t 0 := by
 have hpos := I.pr.pos
 have hst : stepG P ((0 : Nat) == 0) g w = .comm ga #[rcase p.Ch z] true (.recv true) w #[] := by
   rw [show ((0 : Nat) == 0) = true from rfl, hlike.step]; exact hR.h w (.refl w)
 obtain ⟨q, hch⟩ := I.sh.ch
 -- who is parked at a send
 have hall : ∀ (j x : Nat), (j, x) ∈ partners (gs.setIfInBounds 0 ph) p.Ch true → x = 0 ∧ j ≠ 0 ∧ ∃ o, gs[j]? = some o ∧ ∃ k g₁ v zj M, (γ j).lo = .wk k ∧ (γ j).deaf = 0 ∧ o = parked g₁ #[scase p.Ch v zj] .send ∧ (∀ b, M b ≠ none → (γ j).own b ∨ (γ j).rd b) ∧ Holds M w ∧ p.Tell k M v ∧ ∀ w₁, WgLv p w₁ → Below P p Pst (ρ j) false ⟨no, no, 0, .told⟩ (Go.Conc.served g₁ undef) w₁ := by
   intro j x hm
   obtain ⟨o, ho, hx⟩ := mem_partners.1 hm
   rcases get_stand ho with ⟨rfl, rfl⟩ | ⟨hj0, ho⟩
   · rw [offersAt_ph] at hx; cases hx
   · rcases (I.sit j o ho).offers_send with h | ⟨h, k, g₁, v, zj, M, a1, a2, a3, a4, a5, a6, a7, a8⟩
     · rw [h] at hx; cases hx
     · rw [h] at hx; simp at hx
       exact ⟨hx, hj0, o, ho, k, g₁, v, zj, M, a1, a2, a3, a4, a5, a6, a8⟩
 by_cases hcl : s.cl = true
 · rw [hcl] at hch
   obtain ⟨hJ, hN, hout, _⟩ := I.pr.ends hR.hl hcl
   have hpn : partners (gs.setIfInBounds 0 ph) p.Ch true = [] := by
     apply List.eq_nil_iff_forall_not_mem.2
     rintro ⟨j, x⟩ hm
     obtain ⟨_, hj0, o, ho, k, _, _, _, _, hlo, _⟩ := hall j x hm
     obtain ⟨_, _, _, _, hc, _⟩ := I.pr.tell (Array.getElem?_eq_some_iff.1 ho).1 hlo hR.hl
     rw [hcl] at hc; cases hc
   have hrun := crowd_recv_closed (sl := sl) hi hst hch hpn
   rw [finishComm_recv] at hrun
   obtain ⟨γ', ρ', h1, h2⟩ := I.ends hi hR hcl (fm := ga.frame.fn) (pm := ga.frame.place)
   refine ⟨_, _, sl, γ', ρ', s, _, hrun, h1, ?_⟩
   have et : t ++ (MemOp.ofEvents 0 g.frame.fn g.frame.place #[] ++ #[({ g := 0, fn := ga.frame.fn, pos := ga.frame.place, act := .recvClosed p.Ch } : MemOp)]) = t ++ #[({ g := 0, fn := ga.frame.fn, pos := ga.frame.place, act := .recvClosed p.Ch } : MemOp)] := by simp [MemOp.ofEvents]
   rw [← et] at h2
   exact h2
 · have hcl : s.cl = false := by simpa using hcl
   rw [hcl] at hch
   by_cases hne : partners (gs.setIfInBounds 0 ph) p.Ch true = []
   · have hrun := crowd_waits (sl := sl) hi hst (fun cc hcc => by
       simp at hcc; subst hcc
       exact ways_recv_none hch hne)
     have hfirst : ∀ (j k : Nat) (x : Goroutine), gs[j]? = some x → (γ j).lo = .wk k → x.status = .running := by
       intro j k x hx hlo
       cases I.sit j x hx with
       | on _ _ hs => exact hs
       | fin _ _ hl => rw [hl] at hlo; cases hlo
       | bl _ _ _ _ hl => rw [hl] at hlo; cases hlo
       | ps k' hm hl hd g₁ v zj M hg =>
         exfalso
         have hj0 : j ≠ 0 := by rintro rfl; simp at hm
         have : (j, 0) ∈ partners (gs.setIfInBounds 0 ph) p.Ch true := mem_partners.2 ⟨x, by rw [Array.getElem?_setIfInBounds_ne (fun e => hj0 e.symm)]; exact hx, by rw [hg, offersAt_parked_send, if_pos rfl]; simp⟩
         rw [hne] at this; cases this
       | pr _ _ _ _ _ hg _ hr => have := hr.hl; rw [hlo] at this; cases this
     obtain ⟨h1, h2⟩ := I.park hi hs (g' := parked ga #[rcase p.Ch z] (.recv true)) rfl (.pr J ga z g₀ rfl rfl hcl hR) ⟨fun _ => hfirst, fun e => absurd rfl e⟩
     refine ⟨_, _, sl, γ, ρ, s, _, hrun, h1, ?_⟩
     have et : t ++ MemOp.ofEvents 0 g.frame.fn g.frame.place #[] = t := by simp [MemOp.ofEvents]
     rw [et]; exact h2
   · obtain ⟨j, gj, vj, zj, shj, d, hj0, hj, hrun⟩ := crowd_recv_meets_some (sl := sl) hi hst hch hne fun j x hm => by
       obtain ⟨a, b, o, ho, k, g₁, v, zj, M, _, _, ho', _⟩ := hall j x hm
       exact ⟨a, b, g₁, v, zj, .send, by rw [ho, ho']⟩
     have hlt : j < gs.size := (Array.getElem?_eq_some_iff.1 hj).1
     -- that one's telling
     cases I.sit j _ hj with
     | on _ _ hs => cases hs
     | fin hs => cases hs
     | bl g₀ hg ho => have := congrArg Goroutine.offers hg; simp [parked, ho] at this
     | pr J' g₁ z' g₀' hm => simp at hm; exact absurd hm hj0
     | ps k hm hl hd g₁ v zj' M hg hM hh ht hk =>
       have hg' := congrArg Goroutine.offers hg
       simp only [parked, Option.some.injEq, Prod.mk.injEq] at hg'
       obtain ⟨hcs, rfl⟩ := hg'
       simp [scase] at hcs
       obtain ⟨rfl, rfl⟩ := hcs
       have hser : gj.finishComm P #[scase p.Ch vj zj] .send 0 undef false = Go.Conc.served g₁ undef := by
         obtain ⟨f, c, s1, dy, o1⟩ := gj
         obtain ⟨f', c', s1', dy', o1'⟩ := g₁
         simp only [parked, Goroutine.mk.injEq] at hg
         obtain ⟨rfl, rfl, _, rfl, _⟩ := hg
         rfl
       rw [hser, finishComm_recv] at hrun
       obtain ⟨γ', ρ', h1, h2⟩ := I.meet (gs' := (gs.setIfInBounds j (Go.Conc.served g₁ undef)).setIfInBounds 0 (Go.Conc.served ga (recvd true vj true))) (a := g) hlt hj0 hl hd hM hh ht hk hR (d := d) hch (by simp)
         (by rw [Array.getElem?_setIfInBounds_self_of_lt (by simpa using hpos)]) (by rw [Array.getElem?_setIfInBounds_ne (fun e => hj0 e.symm), Array.getElem?_setIfInBounds_self_of_lt hlt])
         (fun x x0 xj => by rw [Array.getElem?_setIfInBounds_ne (fun e => x0 e.symm), Array.getElem?_setIfInBounds_ne (fun e => xj e.symm)]) (fi := gj.frame.fn) (pi := gj.frame.place) (fm := ga.frame.fn) (pm := ga.frame.place)
       refine ⟨_, _, sl, γ', ρ', s, _, hrun, h1, ?_⟩
       have et : t ++ (MemOp.ofEvents 0 g.frame.fn g.frame.place #[] ++ meetOps j gj.frame.fn gj.frame.place ga.frame.fn ga.frame.place p.Ch q 0) = t ++ meetOps j gj.frame.fn gj.frame.place ga.frame.fn ga.frame.place p.Ch q 0 := by simp [MemOp.ofEvents]
       rw [← et] at h2
       exact h2
theorem Inv.stepFork (I : Inv P p Pst gs w γ ρ s t) (hi : gs[0]? = some g) {ch : Goroutine} (hst : stepG P true g w = .spawn g' ch w #[]) {X : Blks} (hX : ∀ b, X b → (γ 0).own b) {l l' : Lo} (hd : (γ 0).deaf = 0) (hno : (γ 0).lo ≠ .fin)
   (hpr : Proto p (gs.size + 1) (up (up (los γ) 0 l) gs.size l') s) (hsy : sayr p (gs.size + 1) = sayr p gs.size ∨ (sayr p gs.size = 0 ∧ sayr p (gs.size + 1) = gs.size)) (hl1 : l ≠ .out ∧ l ≠ .fin) (hl2 : l' ≠ .out) (hl3 : gs.size ≤ p.n → ∃ k, l' = .wk k) (hl4 : gs.size ≤ p.n + 1) (hnw : ∀ j, 1 ≤ j → j < gs.size → ∃ k, (γ j).lo = .wk k)
   (hk0 : Below P p Pst (ρ 0) true ⟨fun b => (γ 0).own b ∧ ¬ X b, fun b => (γ 0).rd b ∨ X b, 0, l⟩ g' w) (hkN : Below P p Pst (ρ 0) false ⟨no, fun b => (γ 0).rd b ∨ X b, 0, l'⟩ ch w) : Next P p Pst gs w sl ρ t 0 := by
 have hpos := I.pr.pos
 obtain ⟨r0, hr0, hR0⟩ := hk0
 obtain ⟨rN, hrN, hRN⟩ := hkN
 have hrun := runT_crowd_spawn (sl := sl) (i := 0) hi hst
 have hrun' : runT P (crowd gs w sl) 0 = (.next (crowd ((gs.setIfInBounds 0 g').push ch) w sl), #[({ g := 0, fn := g.frame.fn, pos := g.frame.place, act := .go gs.size } : MemOp), { g := gs.size, fn := ch.frame.fn, pos := g.frame.place, act := .start }]) := by
   rw [hrun]; rfl
 have hsz : ((gs.setIfInBounds 0 g').push ch).size = gs.size + 1 := by simp
 have get : ∀ j, ((gs.setIfInBounds 0 g').push ch)[j]? = if j = gs.size then some ch else if j = 0 then some g' else gs[j]? := fun j => by
   rw [Array.getElem?_push]
   by_cases e : j = gs.size
   · subst e; simp
   · rw [if_neg (by simpa using e), if_neg e]
     by_cases e0 : j = 0
     · subst e0; rw [if_pos rfl, Array.getElem?_setIfInBounds_self_of_lt hpos]
     · rw [if_neg e0, Array.getElem?_setIfInBounds_ne (fun x => e0 x.symm)]
 refine ⟨_, w, sl, up (up γ 0 ⟨fun b => (γ 0).own b ∧ ¬ X b, fun b => (γ 0).rd b ∨ X b, 0, l⟩) gs.size ⟨no, fun b => (γ 0).rd b ∨ X b, 0, l'⟩, up (up ρ 0 r0) gs.size rN, s, _, hrun', ?_, ?_⟩
 · unfold meas
   rw [up_ne _ _ (by omega), up_same]
   exact Prod.Lex.left _ _ hr0
 have gz : up (up γ 0 ⟨fun b => (γ 0).own b ∧ ¬ X b, fun b => (γ 0).rd b ∨ X b, 0, l⟩) gs.size ⟨no, fun b => (γ 0).rd b ∨ X b, 0, l'⟩ 0 = ⟨fun b => (γ 0).own b ∧ ¬ X b, fun b => (γ 0).rd b ∨ X b, 0, l⟩ := by rw [up_ne _ _ (by omega), up_same]
 have gN : up (up γ 0 ⟨fun b => (γ 0).own b ∧ ¬ X b, fun b => (γ 0).rd b ∨ X b, 0, l⟩) gs.size ⟨no, fun b => (γ 0).rd b ∨ X b, 0, l'⟩ gs.size = ⟨no, fun b => (γ 0).rd b ∨ X b, 0, l'⟩ := up_same _ _ _
 have go : ∀ j, j ≠ 0 → j ≠ gs.size → up (up γ 0 ⟨fun b => (γ 0).own b ∧ ¬ X b, fun b => (γ 0).rd b ∨ X b, 0, l⟩) gs.size ⟨no, fun b => (γ 0).rd b ∨ X b, 0, l'⟩ j = γ j := fun j a b => by rw [up_ne _ _ b, up_ne _ _ a]
 generalize hγ' : up (up γ 0 ⟨fun b => (γ 0).own b ∧ ¬ X b, fun b => (γ 0).rd b ∨ X b, 0, l⟩) gs.size ⟨no, fun b => (γ 0).rd b ∨ X b, 0, l'⟩ = γ' at gz gN go
 have own : ∀ j b, owns γ' j b → owns γ j b ∧ j ≠ gs.size ∧ (j = 0 → ¬ X b) := fun j b h => by
   by_cases e : j = gs.size
   · subst e; simp only [owns, gN] at h; exact h.elim
   · by_cases e0 : j = 0
     · subst e0; simp only [owns, gz] at h; exact ⟨h.1, e, fun _ => h.2⟩
     · simp only [owns, go j e0 e] at h; exact ⟨h, e, fun x => absurd x e0⟩
 have rd : ∀ j b, rds γ' j b → (j ≠ gs.size ∧ rds γ j b) ∨ ((j = 0 ∨ j = gs.size) ∧ (rds γ 0 b ∨ X b)) := fun j b h => by
   by_cases e : j = gs.size
   · subst e; simp only [rds, gN] at h; exact .inr ⟨.inr rfl, h⟩
   · by_cases e0 : j = 0
     · subst e0; simp only [rds, gz] at h; exact .inr ⟨.inl rfl, h⟩
     · simp only [rds, go j e0 e] at h; exact .inl ⟨e, h⟩
 refine ⟨by rw [hsz, ← hγ', los_up, los_up]; exact hpr, I.sh, ?_, ?_, fun j x hj => ?_, fun a ha hb => ?_, fun j j1 jn jl hw => ?_, fun hN hc => ?_, fun hf => ?_⟩
 · rw [hsz]
   refine ⟨fun a b x ha hb hab h1 h2 => ?_, fun a b x ha hb h1 h2 => ?_, fun a b ha h => ?_, fun a b ha h => ?_, I.dj.wg, I.dj.ch, I.dj.ne⟩
   · obtain ⟨h1, n1, _⟩ := own _ _ h1
     obtain ⟨h2, n2, _⟩ := own _ _ h2
     exact I.dj.oo a b x (by omega) (by omega) hab h1 h2
   · obtain ⟨h1, n1, h1x⟩ := own _ _ h1
     rcases rd b x h2 with ⟨n2, h2⟩ | ⟨hb0, h2⟩
     · exact I.dj.ord a b x (by omega) (by omega) h1 h2
     · rcases h2 with h2 | h2
       · exact I.dj.ord a 0 x (by omega) hpos h1 h2
       · by_cases e : a = 0
         · exact h1x e h2
         · exact I.dj.oo a 0 x (by omega) hpos e h1 (hX x h2)
   · obtain ⟨h1, n1, _⟩ := own _ _ h
     exact I.dj.lto a b (by omega) h1
   · rcases rd a b h with ⟨n2, h2⟩ | ⟨_, h2⟩
     · exact I.dj.ltr a b (by omega) h2
     · rcases h2 with h2 | h2
       · exact I.dj.ltr 0 b hpos h2
       · exact I.dj.lto 0 b hpos (hX b h2)
 · rw [hsz]
   have h1 : TI gs.size (up (owns γ) 0 fun b => (γ 0).own b ∧ ¬ X b) (up (rds γ) 0 fun b => (γ 0).rd b ∨ X b) (deafs γ) w.heap.size p.Wg p.Ch (sayr p gs.size) t := by
     refine I.ti.less (fun j b hj h => ?_) fun j b hj h => ?_
     · by_cases e : j = 0
       · subst e; rw [up_same] at h; exact h.1
       · rw [up_ne _ _ e] at h; exact h
     · by_cases e : j = 0
       · subst e; rw [up_same] at h; exact h.imp id fun h => hX b h
       · rw [up_ne _ _ e] at h; exact .inl h
   have h2 := h1.fork hpos (show deafs γ 0 = 0 from hd) (x := { g := 0, fn := g.frame.fn, pos := g.frame.place, act := .go gs.size }) (y := { g := gs.size, fn := ch.frame.fn, pos := g.frame.place, act := .start }) ⟨rfl, rfl⟩ ⟨rfl, rfl⟩ (rdN := fun b => (γ 0).rd b ∨ X b) (fun b h => by rw [up_same]; exact h) hsy
   have hde : up (deafs γ) 0 0 = deafs γ := by have := up_self (deafs γ) 0; simp only [deafs, hd] at this ⊢; exact this
   rw [← hγ', owns_up, owns_up, rds_up, rds_up, deafs_up, deafs_up]
   simp only [hde]
   exact h2
 · rw [get] at hj
   by_cases e : j = gs.size
   · subst e
     rw [if_pos rfl] at hj; cases hj
     rw [gN, up_same, show (gs.size == 0) = false by rw [beq_eq_false_iff_ne]; omega]
     exact Sit.of_run hRN (.inl rfl)
   · rw [if_neg e] at hj
     rw [up_ne _ _ e]
     by_cases e0 : j = 0
     · subst e0
       rw [if_pos rfl] at hj; cases hj
       rw [gz, up_same]
       exact Sit.of_run hR0 (.inr hl1.1)
     · rw [if_neg e0] at hj
       rw [go j e0 e, up_ne _ _ e0]
       exact I.sit j x hj
 · exfalso
   rw [get, if_neg (by omega), if_pos rfl] at ha; cases ha
   rcases hR0.node.status with h | ⟨h, _⟩ <;> rw [h] at hb <;> cases hb
 · rw [hsz] at jl
   have hno' : ∀ op, op ∈ (#[({ g := 0, fn := g.frame.fn, pos := g.frame.place, act := .go gs.size } : MemOp), { g := gs.size, fn := ch.frame.fn, pos := g.frame.place, act := .start }] : Trace) → op.act.touch? = none := fun op h => by
     simp at h; rcases h with rfl | rfl <;> rfl
   by_cases e : j = gs.size
   · subst e
     obtain ⟨k, hk⟩ := hl3 jn
     rw [gN] at hw
     exact absurd hk (hw k)
   · rw [go j (by omega) e] at hw
     exact (I.lf j j1 jn (by omega) hw).other fun op h => .inr (hno' op h)
 · exfalso
   rw [hsz] at hN
   have : p.n + 1 = gs.size := by omega
   rw [this, gN] at hc
   exact hl2 hc
 · rw [gz] at hf; exact absurd hf hl1.2
end
end Go.Proofs.YtpdojmebloekgaaDoor.Nice.Co
namespace Go.Proofs.YtpdojmebloekgaaDoor.Nice.Co
open Go Go.Conc
open Go.ConcR (KK WgAt stA smA mk)
set_option linter.unusedVariables false
set_option linter.unusedSimpArgs false
theorem QuitsD.like {P : Program} {q d : Nat} {g h : Goroutine} (l : Like g h) (hs : g.status = h.status) (hq : QuitsD P q d h) : QuitsD P q d g := by
 cases q with
 | zero => exact ⟨hs.trans hq.1, hq.2⟩
 | succ q => exact hq.imp (fun x => ⟨hs.trans x.1, x.2⟩) fun ⟨a, g', es, b, c, k⟩ => ⟨hs.trans a, g', es, b, fun w => by rw [l.step]; exact c w, k⟩
section
variable {P : Program} {p : Pr} {Pst : Value → World → Prop} {gs : Array Goroutine} {w w' : World} {γ : Nat → Gam} {ρ : Nat → Rank} {s : Sst} {t : Trace} {g g₀ g' : Goroutine} {sl : Option (Nat × Nat)}
theorem Sit.quits {r : Rank} {Γ : Gam} {main : Bool} (S : Sit P p Pst r Γ s main g w) (hl : Γ.lo = .out) : ∃ q, QuitsD P q Γ.deaf g := by
 cases S with
 | on g₀ hk hs hs0 h => obtain ⟨q, hq⟩ := h.quits hl; exact ⟨q, QuitsD.like hk (hs.trans hs0.symm) hq⟩
 | fin hs hm hl hd => exact ⟨0, hs, hd⟩
 | bl _ _ _ _ h => rw [hl] at h; cases h
 | ps _ _ h => rw [hl] at h; cases h
 | pr _ _ _ _ _ _ _ h => have := h.hl; rw [hl] at this; cases this
theorem Inv.atEnd (I : Inv P p Pst gs w γ ρ s t) (hf : (γ 0).lo = .fin) : gs.size = p.n + 2 ∧ ∀ j, 1 ≤ j → j < gs.size → (γ j).lo = .out := by
 cases I.pr with
 | spawn j q hN h0 => simp only [los] at h0; rw [hf] at h0; cases h0
 | late hN hm hw md =>
   refine ⟨hN, ?_⟩
   rcases hm with ⟨J, h, _⟩ | ⟨h, hcl⟩
   · simp only [los] at h; rw [hf] at h; cases h
   · cases md with
     | opn B hb ho hB hs => rw [hs] at hcl; cases hcl
     | opc B hb ho hB hs => rw [hs] at hcl; cases hcl
     | reg hb ho hB hs => rw [hs] at hcl; cases hcl
     | last hb L _ _ hL => rcases hL with ⟨_, hs⟩ | ⟨_, hs⟩ <;> rw [hs] at hcl <;> cases hcl
     | sema hb ho hs => rw [hs] at hcl; cases hcl
     | done hb ho hs => rw [hs] at hcl; cases hcl
     | shut hb ho hs =>
       intro j h1 h2
       rcases Nat.lt_or_ge p.n j with h | h
       · have : j = p.n + 1 := by omega
         subst this; exact hb
       · exact ho j h1 h
theorem Inv.stepRet (I : Inv P p Pst gs w γ ρ s t) (hi : gs[0]? = some g) {d : Nat} {sl' : Option (Nat × Nat)} (hl : (γ 0).lo = .fin) {v : Value} {es : Array Event} (hst : stepG P true g (w.at d) = .ended (.done v) (w.at d) es) (hes : ∀ e, e ∈ es → EvOk (γ 0).own (γ 0).rd e) (hp : Pst v (w.at d)) :
   runT P (crowd gs (w.at d) sl') 0 = (.ended (.done v) (w.at d), MemOp.ofEvents 0 g.frame.fn g.frame.place es) ∧ Go.Conc.Good P Pst (crowd gs w sl) (.done v) (w.at d) (t ++ MemOp.ofEvents 0 g.frame.fn g.frame.place es) := by
 have hpos := I.pr.pos
 obtain ⟨hN, hout⟩ := I.atEnd hl
 refine ⟨?_, v, rfl, hp, fun said => ?_, ?_, ⟨?_, rfl⟩, ?_⟩
 · obtain ⟨hlt, rfl⟩ := Array.getElem?_eq_some_iff.1 hi
   have hsw := swapAt_of_lt hlt { (default : Goroutine) with status := .finished }
   show runT P { world := w.at d, gs := gs, rest := { timers := #[], alone := none, slice := sl' } } 0 = _
   unfold runT
   simp only [hsw, beq_self_eq_true, hst, GStep.es]
 · have := I.ti.app I.dj hpos (u := MemOp.ofEvents 0 g.frame.fn g.frame.place es) (fun op h => Go.ConcR.g_of_ofEvents op h) (fun op hop x hx => by
     obtain ⟨e, he, rfl⟩ := ops_of hop
     exact tok_ev (hes e he) x hx) (own' := (γ 0).own) (fun b h => .inl h) (Nat.le_refl _) (d' := Deaf (t ++ MemOp.ofEvents 0 g.frame.fn g.frame.place es) 0) rfl
   exact this.nr said
 · intro i j hg hne hc
   rcases g?_new hg with ⟨hlt, hg'⟩ | ⟨_, op, hop, hog⟩
   · have hc' := (counts_old hlt).1 hc
     have hj : j < gs.size := by
       obtain ⟨op, ho, hog⟩ := Option.map_eq_some_iff.1 hg'
       rw [← hog]; exact I.ti.lt i op ho
     have hk : Knows t 0 i := by
       rcases Nat.lt_or_ge p.n j with h | h
       · have : j = p.n + 1 := by omega
         subst this; exact I.fi hl i hg' hc'
       · exact I.lf j (by omega) h hj (fun k e => by rw [hout j (by omega) hj] at e; cases e) i hg' hc'
     obtain ⟨q, z, hq, hz, hb⟩ := hk.app (MemOp.ofEvents 0 g.frame.fn g.frame.place es)
     refine ⟨q, by simp only [Trace.g?, hq, Option.map_some, hz], ?_⟩
     rcases hb with rfl | hb
     · simp only [Trace.g?, hq, Option.map_some, hz, Option.some.injEq] at hg; exact absurd hg.symm hne
     · exact hb
   · rw [Go.ConcR.g_of_ofEvents op hop] at hog; exact absurd hog.symm hne
 · intro x hx
   obtain ⟨j, hj⟩ := List.mem_iff_getElem?.1 hx
   rw [List.getElem?_drop, Array.getElem?_toList] at hj
   have hlt : 1 + j < gs.size := (Array.getElem?_eq_some_iff.1 hj).1
   obtain ⟨q, hq⟩ := (I.sit (1 + j) x hj).quits (hout _ (by omega) hlt)
   exact ⟨q, hq.leaves⟩
 · intro j x hj hj0
   have hlt : j < gs.size := (Array.getElem?_eq_some_iff.1 hj).1
   obtain ⟨q, hq⟩ := (I.sit j x hj).quits (hout _ (by omega) hlt)
   refine ⟨q, ?_⟩
   have hd : (t ++ MemOp.ofEvents 0 g.frame.fn g.frame.place es).deaf j (t ++ MemOp.ofEvents 0 g.frame.fn g.frame.place es).size = (γ j).deaf := by
     have := Deaf_other t (g := j) (fun x => hj0 x.symm) (MemOp.ofEvents 0 g.frame.fn g.frame.place es) (fun op h => Go.ConcR.g_of_ofEvents op h)
     exact this.trans (I.ti.df j hlt)
   rw [hd]
   exact hq.hears _
theorem Inv.step (I : Inv P p Pst gs w γ ρ s t) : (∃ o w₁ ops, stepT P (crowd gs w sl) = (.ended o w₁, ops) ∧ Go.Conc.Good P Pst (crowd gs w sl) o w₁ (t ++ ops)) ∨
   (∃ gs' w' sl' γ' ρ' s' ops, stepT P (crowd gs w sl) = (.next (crowd gs' w' sl'), ops) ∧ Lt3 (meas gs' ρ') (meas gs ρ) ∧ Inv P p Pst gs' w' γ' ρ' s' (t ++ ops)) := by
 obtain ⟨i, g, d, sl', hg, hrun, hstep⟩ := crowd_pick (P := P) (w := w) (sl := sl) I.awake I.someone
 rw [hstep]
 have I' := I.at d
 have hlti : i < gs.size := (Array.getElem?_eq_some_iff.1 hg).1
 have hposs := I'.pr.poss hlti
 obtain ⟨g₀, hlike, hs0, hR⟩ := (I'.sit i g hg).running hrun
 have nx : Next P p Pst gs (w.at d) sl' ρ t i → (∃ o w₁ ops, runT P (crowd gs (w.at d) sl') i = (.ended o w₁, ops) ∧ Go.Conc.Good P Pst (crowd gs w sl) o w₁ (t ++ ops)) ∨
     (∃ gs' w' sl'' γ' ρ' s' ops, runT P (crowd gs (w.at d) sl') i = (.next (crowd gs' w' sl''), ops) ∧ Lt3 (meas gs' ρ') (meas gs ρ) ∧ Inv P p Pst gs' w' γ' ρ' s' (t ++ ops)) := .inr
 cases hR.node with
 | own hs hl h =>
   obtain ⟨g', w', es, a, b, c, k⟩ := h _ (.refl _)
   exact nx (I'.stepOwn hg (by rw [hlike.step]; exact a) hl b c k)
 | sync hs hl h =>
   obtain ⟨g', w', es, lo', s', a, b, c, e, f, k⟩ := h _ (.refl _) s I'.sh hposs
   exact nx (I'.stepSync hg (by rw [hlike.step]; exact a) hl b c e (f.imp id fun f => by rw [mayWake_like hlike]; exact f) k)
 | wait hs ho hl h =>
   simp only [los, hl] at hposs
   obtain ⟨a, b⟩ := h _ (.refl _) s I'.sh hposs
   exact nx (I'.stepWait hg hlike hrun hs0 ho hl hR a b)
 | spawnW hs hm j hl hd h =>
   have hi0 : i = 0 := by simpa using hm
   subst hi0
   obtain ⟨X, g', ch, a, b, c, e⟩ := h _ (.refl _)
   obtain ⟨hN, hjn, hpr⟩ := I'.pr.begins hl
   refine nx (I'.stepFork hg (by rw [hlike.step]; exact b) a hd (by rw [hl]; simp) hpr ?_ (by simp) (by simp) (fun _ => ⟨_, rfl⟩) (by omega) (fun x h1 h2 => ?_) c e)
   · have h2 : sayr p gs.size = 0 := (I'.spawning hlti hl).2
     by_cases e : gs.size + 1 = p.n + 2
     · omega
     · left; rw [h2]; unfold sayr; rw [if_neg e]
   · cases I'.pr with
     | spawn j' q hN' h0 hj hw => exact ⟨_, hw x h1 (by omega)⟩
     | late hN' hm' => rcases hm' with ⟨J, h, _⟩ | ⟨h, _⟩ <;> simp only [los] at h <;> rw [hl] at h <;> cases h
 | spawnC hs hm hl hd h =>
   have hi0 : i = 0 := by simpa using hm
   subst hi0
   obtain ⟨X, g', ch, a, b, c, e⟩ := h _ (.refl _)
   obtain ⟨hN, hpr⟩ := I'.pr.closes hl
   refine nx (I'.stepFork hg (by rw [hlike.step]; exact b) a hd (by rw [hl]; simp) hpr ?_ (by simp) (by simp) (fun h => by omega) (by omega) (fun x h1 h2 => ?_) c e)
   · have h2 : sayr p gs.size = 0 := (I'.spawning hlti hl).2
     right
     exact ⟨h2, by rw [sayr_late (by omega)]; omega⟩
   · cases I'.pr with
     | spawn j' q hN' h0 hj hw => exact ⟨_, hw x h1 (by omega)⟩
     | late hN' hm' => rcases hm' with ⟨J, h, _⟩ | ⟨h, _⟩ <;> simp only [los] at h <;> rw [hl] at h <;> cases h
 | send hs hm k hl hd g₁ v z M hM hh ht h hk =>
   have hi0 : i ≠ 0 := by simpa using hm
   exact nx (I'.stepSend hg hrun hi0 hl hd hM hh ht (by rw [hm, hlike.step]; exact h _ (.refl _)) hk)
 | recv hm J g₁ z h =>
   have hi0 : i = 0 := by simpa using hm
   subst hi0
   exact nx (I'.stepRecv hg hrun hlike h)
 | ret hs hm hl h =>
   have hi0 : i = 0 := by simpa using hm
   subst hi0
   obtain ⟨v, es, a, b, c⟩ := h _ (.refl _)
   obtain ⟨h1, h2⟩ := I.stepRet (sl := sl) (sl' := sl') hg hl (d := d) (by rw [hlike.step]; exact a) b c
   exact .inl ⟨_, _, _, h1, h2⟩
 | quit hm hl h =>
   have hi0 : i ≠ 0 := by simpa using hm
   rcases h with ⟨h, _⟩ | ⟨_, g', es, a, b, k⟩
   · rw [hs0] at h; cases h
   · exact nx (I'.stepQuit hg hi0 hl a (by rw [hm, hlike.step]; exact b _) (by rw [hm]; exact k))
theorem Inv.run : ∀ (μ : Mea) (gs : Array Goroutine) (w : World) (sl : Option (Nat × Nat)) (γ : Nat → Gam) (ρ : Nat → Rank) (s : Sst) (t : Trace), meas gs ρ = μ → Inv P p Pst gs w γ ρ s t →
   ∃ N last o w' t', runNT P (N + 1) (crowd gs w sl) t = (.ended o w', t') ∧ runN P N (crowd gs w sl) = .next last ∧ Go.step P last = .ended o w' ∧ Go.Conc.Good P Pst last o w' t' := by
 intro μ
 induction μ using Lt3.wf.induction with
 | _ μ ih =>
   intro gs w sl γ ρ s t hμ I
   rcases I.step (sl := sl) with ⟨o, w₁, ops, hs, hq⟩ | ⟨gs', w', sl', γ', ρ', s', ops, hs, hr, hI'⟩
   · exact ⟨0, _, o, w₁, t ++ ops, by simp [runNT, hs], rfl, by simp [Go.step, hs], hq⟩
   · obtain ⟨n, last, o, w'', t', h1, h2, h3, h4⟩ := ih _ (hμ ▸ hr) gs' w' sl' γ' ρ' s' (t ++ ops) rfl hI'
     exact ⟨n + 1, last, o, w'', t', by rw [runNT_succ_next hs]; exact h1, by rw [runN_succ_next hs]; exact h2, h3, h4⟩
end
end Go.Proofs.YtpdojmebloekgaaDoor.Nice.Co
namespace Go.Proofs.YtpdojmebloekgaaDoor.Nice.Co
open Go Go.Conc
open Go.ConcR (KK WgAt stA smA mk DC0)
set_option linter.unusedVariables false
set_option linter.unusedSimpArgs false
section
variable {P : Program} {p : Pr} {Pst : Value → World → Prop} {main : Bool} {Γ : Gam} {g g' : Goroutine} {w w' : World}
theorem Run.of_goes (hl : Γ.lo ≠ .out) : ∀ {n : Nat} {g : Goroutine} {w : World}, Goes P main (RelyP p Γ) DC0 (fun g w => Run P p Pst main Γ g w) n g w → Run P p Pst main Γ g w
 | 0, g, w, h => h w (.refl w)
 | n + 1, g, w, h => by
   rcases h with h | ⟨hs, h⟩
   · exact h w (.refl w)
   · refine Run.intro (.own hs hl fun w₁ h₁ => ?_)
     obtain ⟨g', w', es, e, ⟨rfl, rfl⟩, k⟩ := goes_elim (h w₁ h₁)
     exact ⟨g', w', #[], e, fun _ => rfl, Guar.idle _, by rw [more_self]; exact Run.of_goes hl k⟩
def Apt (p : Pr) (A Rd : Blks) : Prop := ∀ b, A b ∨ Rd b → b ≠ p.Wg ∧ b ≠ p.Ch
theorem Only.relyP (O : Only p w w') (h : Apt p Γ.own Γ.rd) (hl : WgLv p w') : RelyP p Γ w w' := ⟨⟨O.same, fun b hb => O.keep b (h b hb).1 (h b hb).2⟩, fun _ => hl⟩
theorem sh_ne {s : Sst} (h : Sh p s w) : p.Wg ≠ p.Ch := by
 intro e
 obtain ⟨q, hc⟩ := h.ch
 have hw := h.wg
 unfold WgAt at hw
 rw [e, hc] at hw
 simp [Go.ConcR.wgBlock] at hw
theorem Sh.setSt {s : Sst} (h : Sh p s w) (v wt : Nat) {x : Int} (hx : x = (v : Int) * KK + wt) : Sh p ⟨v, wt, s.sm, s.cl⟩ (w.setCell (stA p.Wg) (.int .u64 x)) ∧ Only p w (w.setCell (stA p.Wg) (.int .u64 x)) := by
 subst hx
 have hne := sh_ne h
 have hk : ∀ b, b ≠ p.Wg → (w.setCell (stA p.Wg) (.int .u64 ((v : Int) * KK + wt))).heap[b]? = w.heap[b]? := fun b hb => by
   simp only [World.setCell, stA]
   rw [Array.getElem?_modify, if_neg (fun e => hb e.symm)]
 refine ⟨⟨Go.ConcR.WgAt.setSt h.wg _, let ⟨q, hc⟩ := h.ch; ⟨q, by rw [hk _ (fun e => hne e.symm)]; exact hc⟩⟩, Same.setCell _ _ _, by simp, fun b hb _ => hk b hb⟩
theorem Sh.setSm {s : Sst} (h : Sh p s w) (m : Nat) {x : Int} (hx : x = (m : Int)) : Sh p ⟨s.v, s.wt, m, s.cl⟩ (w.setCell (smA p.Wg) (.int .u32 x)) ∧ Only p w (w.setCell (smA p.Wg) (.int .u32 x)) := by
 subst hx
 have hne := sh_ne h
 have hk : ∀ b, b ≠ p.Wg → (w.setCell (smA p.Wg) (.int .u32 (m : Int))).heap[b]? = w.heap[b]? := fun b hb => by
   simp only [World.setCell, smA]
   rw [Array.getElem?_modify, if_neg (fun e => hb e.symm)]
 refine ⟨⟨Go.ConcR.WgAt.setSm h.wg _, let ⟨q, hc⟩ := h.ch; ⟨q, by rw [hk _ (fun e => hne e.symm)]; exact hc⟩⟩, Same.setCell _ _ _, by simp, fun b hb _ => hk b hb⟩
theorem Only.refl (w : World) : Only p w w := ⟨.refl w, rfl, fun _ _ _ => rfl⟩
theorem Run.mark (hs : g.status = .running) (hl : Γ.lo ≠ .out) (m : Mark) (hm : MarkOk m) {d' : Nat} (hd : deafBehind Γ.deaf #[mk m] = d') (h : ∀ w₁, RelyP p Γ w w₁ → stepG P main g w₁ = .go g' w₁ #[mk m])
   (hk : ∀ w₁, RelyP p Γ w w₁ → Run P p Pst main ⟨Γ.own, Γ.rd, d', Γ.lo⟩ g' w₁) : Run P p Pst main Γ g w :=
 Run.intro (.sync hs hl fun w₁ h₁ s hsh hp => ⟨g', w₁, #[mk m], Γ.lo, s, h w₁ h₁, .mark m hm, .refl w₁, hsh, .inl ⟨rfl, rfl⟩, by rw [hd]; exact hk w₁ h₁⟩)
end
def trRun (P : Program) (p : Pr) (Pst : Value → World → Prop) (main : Bool) (Rd : Blks) (d : Nat) (lo : Lo) (hl : lo ≠ .out) (hm : lo.mute = false) : Tr P where
 main := main
 Rd := Rd
 T := fun A g w => Apt p A Rd → ∀ w₁, Rely A Rd w w₁ → WgLv p w₁ → Run P p Pst main ⟨A, Rd, d, lo⟩ g w₁
 step := fun A g w hs h ha w₁ h₁ hl₁ => by
   refine Run.intro (.own hs hl fun w₂ h₂ => ?_)
   obtain ⟨g', w', es, a, b, c⟩ := h w₂ (h₁.trans h₂.ry)
   have hl₂ := h₂.wg hl₁
   obtain ⟨⟨st, sm, hwg⟩, hch⟩ := hl₂
   have hwlt : p.Wg < w₂.heap.size := (Array.getElem?_eq_some_iff.1 hwg).1
   have hA : Apt p (more A w₂ w') Rd := fun x hx => by
     rcases hx with (hx | ⟨hx, _⟩) | hx
     · exact ha x (.inl hx)
     · exact ⟨by omega, by omega⟩
     · exact ha x (.inr hx)
   refine ⟨g', w', es, a, fun hmu => absurd (show lo.mute = true from hmu) (by rw [hm]; simp), b, c hA w' (.refl w') ⟨⟨st, sm, ?_⟩, Nat.lt_of_lt_of_le hch b.same.size⟩⟩
   unfold WgAt
   rw [b.keep _ hwlt fun h => (ha _ (.inl h)).1 rfl]
   exact hwg
 rely := fun A g w w₁ h r ha w₂ h₂ hl₂ => h ha w₂ (r.trans h₂) hl₂
section
variable {P : Program} {p : Pr} {Pst : Value → World → Prop} {main : Bool} {Rd A : Blks} {d : Nat} {lo : Lo} {hl : lo ≠ .out} {hm : lo.mute = false} {g : Goroutine} {w : World}
theorem trRun.elim (h : (trRun P p Pst main Rd d lo hl hm).T A g w) (ha : Apt p A Rd) (hw : WgLv p w) : Run P p Pst main ⟨A, Rd, d, lo⟩ g w := h ha w (.refl w) hw
theorem trRun.intro (h : Apt p A Rd → ∀ w₁, Rely A Rd w w₁ → WgLv p w₁ → Run P p Pst main ⟨A, Rd, d, lo⟩ g w₁) : (trRun P p Pst main Rd d lo hl hm).T A g w := h
end
end Go.Proofs.YtpdojmebloekgaaDoor.Nice.Co
namespace Go.Proofs.YtpdojmebloekgaaDoor.Nice.Co
open Go Go.Conc
set_option linter.unusedVariables false
set_option linter.unusedSimpArgs false
abbrev F0 : Imm := fun _ => none
abbrev pin0 : Names := fun _ => none
structure SX (C : Ctx) (A Rd : Blks) (M : Imm) (ds : List Deferred) (ρ : Names) (nb : Nat) (σ : St) (a : Act) (w : World) : Prop where
 fit : Fit A Rd F0 M w
 sr : SR0 C M (ext A Rd F0 w) pin0 ρ σ ⟨a.tmps, []⟩ w
 df : a.defers = ds
 fr : ∀ n, nb ≤ n → ρ n = none
theorem eval_df (a : Act) (x : Operand) : Act.eval ⟨a.tmps, []⟩ x = a.eval x := by cases x <;> rfl
section
variable {C : Ctx} {A Rd : Blks} {M : Imm} {ds : List Deferred} {ρ : Names} {nb : Nat} {σ : St} {a : Act} {w w₁ : World}
theorem SX.op (h : SX C A Rd M ds ρ nb σ a w) (x : Operand) : VR M ρ (opv C σ.t x) (a.eval x) := by have := opv_rel h.sr x; rwa [eval_df] at this
theorem SX.toSC (h : SX C A Rd M [] ρ σ.nx σ a w) : SC C A Rd F0 M pin0 ρ σ a w := by
 have e : (⟨a.tmps, []⟩ : Act) = a := by obtain ⟨t, d⟩ := a; have := h.df; simp only at this; subst this; rfl
 refine ⟨h.fit, ⟨?_, h.fr⟩⟩
 have := h.sr; rw [e] at this; exact this
theorem SC.toSX (h : SC C A Rd F0 M pin0 ρ σ a w) : SX C A Rd M [] ρ σ.nx σ a w := by
 have e : (⟨a.tmps, []⟩ : Act) = a := by obtain ⟨t, d⟩ := a; have := h.sr.df; simp only at this; subst this; rfl
 exact ⟨h.fit, by rw [e]; exact h.sr.toSR0, h.sr.df, h.sr.fr⟩
theorem SX.rely (h : SX C A Rd M ds ρ nb σ a w) (r : Rely A Rd w w₁) : SX C A Rd M ds ρ nb σ a w₁ :=
 ⟨fit_rely h.fit r, ⟨h.sr.tm, h.sr.sz, h.sr.df, hr_rely h.sr.hr h.fit r, h.sr.pn, h.sr.pm, h.sr.gl⟩, h.df, h.fr⟩
theorem SX.app {A' Rd' : Blks} {M' : Imm} {ρ' : Names} {nb' : Nat} {w' : World} (hs : SX C A Rd M ds ρ nb σ a w) {dst : Option Nat} (hd : (match dst with | none => true | some d => Nat.blt d C.sz) = true) {u : SV} {wr : List (Nat × Option Blk)} {u' : Value} (hf : Fit A' Rd' F0 M' w')
   (hM : M.le M') (hρ : ρ.le ρ') (hv : VR M' ρ' u u') (hh : HR M' (ext A' Rd' F0 w') ρ' (wrH σ.h wr) w') (hn : ∀ n, nb' ≤ n → ρ' n = none) : SX C A' Rd' M' ds ρ' nb' (σ.app dst u wr) (a.put dst u') w' := by
 refine ⟨hf, ⟨fun k => ?_, ?_, rfl, hh, (fun n x h => by cases h), (fun n x h => by cases h), fun g ρ => (hs.sr.gl g ρ).mono hM (Names.le_refl _)⟩, ?_, hn⟩
 · cases dst with
   | none => exact (hs.sr.tm k).mono hM hρ
   | some d =>
     have hlt : d < a.tmps.size := by have := hs.sr.sz; simp only at this; rw [this]; simpa using hd
     show VR M' ρ' (upd σ.t d u k) _
     rw [upd_eq]
     have ht := hs.sr.tm k
     split
     · next e => subst e; rw [getD_put_same hlt]; exact hv
     · next e => rw [getD_put_other e]; exact ht.mono hM hρ
 · have := hs.sr.sz
   cases dst <;> simpa [Act.put] using this
 · cases dst <;> simp [Act.put, hs.df]
end
abbrev QX (P : Program) := Exit → Tr P → List Deferred → St → Prop
def PX (C : Ctx) (M0 : Imm) (w0 : World) (Q : QX C.P) (b : Frame) (k : List Item) (cs : List Frame) : Prop :=
 ∀ e (K : Tr C.P) ds A M ρ σ a w, M0.le M → Same w0 w → SX C A K.Rd M ds ρ σ.nx σ a w → Q e K ds σ → Aft K A b k cs e a w
def WX (C : Ctx) (c : Code) (Q : QX C.P) (K : Tr C.P) (ds : List Deferred) (σ : St) : Prop :=
 ∀ A M ρ a w, SX C A K.Rd M ds ρ σ.nx σ a w → ∀ b k cs, b.kind ≠ .early → PX C M w Q b k cs → K.T A (G (b.at a (.code c :: k)) cs) w
def thenX {P : Program} (R : Tr P → List Deferred → St → Prop) (Q : QX P) : QX P
 | .normal, K, ds, σ => R K ds σ
 | e, K, ds, σ => Q e K ds σ
def inBlockX {P : Program} (id : Nat) (Q : QX P) : QX P
 | .exit id', K, ds, σ => if id' = id then Q .normal K ds σ else Q (.exit id') K ds σ
 | e, K, ds, σ => Q e K ds σ
section
variable {C : Ctx} {Q : QX C.P} {K : Tr C.P} {ds : List Deferred} {σ : St}
theorem PX.on {M0 M : Imm} {w0 w : World} {b : Frame} {k : List Item} {cs : List Frame} (h : PX C M0 w0 Q b k cs) (hM : M0.le M) (hw : Same w0 w) : PX C M w Q b k cs :=
 fun e K ds A M' ρ σ a w' h1 h2 h3 h4 => h e K ds A M' ρ σ a w' (Imm.le_trans hM h1) (hw.trans h2) h3 h4
theorem WX_of {c : Code} {Q0 : Exit → St → Prop} (h : W C c Q0 σ) (hq : ∀ e σ', Q0 e σ' → Q e K [] σ') : WX C c Q K [] σ := by
 intro A M ρ a w hs b k cs hb hp
 refine h K A F0 M pin0 ρ a w hs.toSC b k cs hb ?_
 intro e A' M' ρ' σ' a' w' h1 h2 h3 h4 h5
 exact hp e K [] A' M' ρ' σ' a' w' h2 h4 h3.toSX (hq _ _ h5)
theorem WX_skip (h : Q .normal K ds σ) : WX C .skip Q K ds σ := fun A M ρ a w hs b k cs hb hp => K.idle rfl (fun _ => stepG_skip) (hp .normal K ds A M ρ σ a w (Imm.le_refl _) (.refl _) hs h)
theorem WX_exit {id : Nat} (h : Q (.exit id) K ds σ) : WX C (.exit id) Q K ds σ := fun A M ρ a w hs b k cs hb hp => by
 obtain ⟨k', hk, hg⟩ := hp (.exit id) K ds A M ρ σ a w (Imm.le_refl _) (.refl _) hs h
 exact K.idle rfl (fun _ => stepG_exit hk) hg
theorem AftX.push {P : Program} {K : Tr P} {A : Blks} {b : Frame} {x : Item} {k : List Item} {cs : List Frame} {e : Exit} {a : Act} {w : World} (hx : x.plain = true) (he : e ≠ .normal) (h : Aft K A b k cs e a w) : Aft K A b (x :: k) cs e a w := Aft.push hx he h
theorem WX_seq {x y : Code} (h : WX C x (thenX (WX C y Q) Q) K ds σ) : WX C (.seq x y) Q K ds σ := by
 intro A M ρ a w hs b k cs hb hp
 refine K.idle rfl (fun _ => stepG_seq) (h A M ρ a w hs b (.code y :: k) cs hb ?_)
 intro e K' ds' A' M' ρ' σ' a' w' h1 h2 h3 h5
 cases e with
 | normal => exact h5 A' M' ρ' a' w' h3 b k cs hb (hp.on h1 h2)
 | exit id => exact Aft.push (x := .code y) rfl (by simp) (hp (.exit id) K' ds' A' M' ρ' σ' a' w' h1 h2 h3 h5)
 | goto l => exact hp (.goto l) K' ds' A' M' ρ' σ' a' w' h1 h2 h3 h5
 | ret => exact hp .ret K' ds' A' M' ρ' σ' a' w' h1 h2 h3 h5
 | panic ch => exact hp (.panic ch) K' ds' A' M' ρ' σ' a' w' h1 h2 h3 h5
 | outgrown => exact hp .outgrown K' ds' A' M' ρ' σ' a' w' h1 h2 h3 h5
theorem WX_cond {c : Operand} {x y : Code} {t : Bool} (hc : opv C σ.t c = SV.b t) (ht : t = true → WX C x Q K ds σ) (hf : t = false → WX C y Q K ds σ) : WX C (.cond c x y) Q K ds σ := by
 intro A M ρ a w hs b k cs hb hp
 have hv := hs.op c
 rw [hc] at hv
 refine K.idle rfl (fun _ => stepG_cond hv.bool) ?_
 cases t with
 | true => exact ht rfl A M ρ a w hs b k cs hb hp
 | false => exact hf rfl A M ρ a w hs b k cs hb hp
theorem WX_block {id : Nat} {c : Code} (h : WX C c (inBlockX id Q) K ds σ) : WX C (.block id c) Q K ds σ := by
 intro A M ρ a w hs b k cs hb hp
 refine K.idle rfl (fun _ => stepG_block) (h A M ρ a w hs b (.inBlock id :: k) cs hb ?_)
 intro e K' ds' A' M' ρ' σ' a' w' h1 h2 h3 h5
 cases e with
 | normal => exact K'.idle rfl (fun _ => stepG_inBlock) (hp .normal K' ds' A' M' ρ' σ' a' w' h1 h2 h3 h5)
 | exit id' =>
   simp only [inBlockX] at h5
   by_cases hid : id' = id
   · rw [if_pos hid] at h5
     exact ⟨k, by simp [exitTo, hid], hp .normal K' ds' A' M' ρ' σ' a' w' h1 h2 h3 h5⟩
   · rw [if_neg hid] at h5
     obtain ⟨k', hk, hg⟩ := hp (.exit id') K' ds' A' M' ρ' σ' a' w' h1 h2 h3 h5
     have : (id == id') = false := by simp; exact fun h => hid h.symm
     exact ⟨k', by simp [exitTo, this, hk], hg⟩
 | goto l => exact hp (.goto l) K' ds' A' M' ρ' σ' a' w' h1 h2 h3 h5
 | ret => exact hp .ret K' ds' A' M' ρ' σ' a' w' h1 h2 h3 h5
 | panic ch => exact hp (.panic ch) K' ds' A' M' ρ' σ' a' w' h1 h2 h3 h5
 | outgrown => exact hp .outgrown K' ds' A' M' ρ' σ' a' w' h1 h2 h3 h5
theorem WX_loop0 {c : Code} (I : Nat → Tr C.P → List Deferred → St → Prop) (n : Nat) (h0 : I n K ds σ)
   (round : ∀ n K ds σ, I n K ds σ → WX C c (thenX (fun K' ds' σ' => ∃ k, k < n ∧ I k K' ds' σ') Q) K ds σ) : WX C (.loop c) Q K ds σ := by
 intro A M ρ a w hs b k cs hb hp
 have key : ∀ n (K : Tr C.P) ds σ A M ρ a w, I n K ds σ → SX C A K.Rd M ds ρ σ.nx σ a w → PX C M w Q b k cs → K.T A (G (b.at a (.code c :: .inLoop c :: k)) cs) w := by
   intro n
   induction n using Nat.strongRecOn with
   | _ n ih =>
     intro K ds σ A M ρ a w hI hs hp
     refine round n K ds σ hI A M ρ a w hs b (.inLoop c :: k) cs hb ?_
     intro e K' ds' A' M' ρ' σ' a' w' h1 h2 h3 h5
     cases e with
     | normal =>
       obtain ⟨j, hj, hI'⟩ := h5
       exact K'.idle rfl (fun _ => stepG_inLoop) (ih j hj K' ds' σ' A' M' ρ' a' w' hI' h3 (hp.on h1 h2))
     | exit id => exact Aft.push (x := .inLoop c) rfl (by simp) (hp (.exit id) K' ds' A' M' ρ' σ' a' w' h1 h2 h3 h5)
     | goto l => exact hp (.goto l) K' ds' A' M' ρ' σ' a' w' h1 h2 h3 h5
     | ret => exact hp .ret K' ds' A' M' ρ' σ' a' w' h1 h2 h3 h5
     | panic ch => exact hp (.panic ch) K' ds' A' M' ρ' σ' a' w' h1 h2 h3 h5
     | outgrown => exact hp .outgrown K' ds' A' M' ρ' σ' a' w' h1 h2 h3 h5
 exact K.idle rfl (fun _ => stepG_loop) (key n K ds σ A M ρ a w h0 hs hp)
theorem WX_sub {c : Code} (π : List Nat) (tl : List (Nat × SV)) (hl : List (Option Blk)) (hsub : Sub C π σ tl hl) (h : WX C c Q K ds (stOf tl hl)) : WX C c Q K ds σ := by
 intro A M ρ a w hs b k cs hb hp
 have hr := hsub.rel hs.sr
 exact h A M _ a w ⟨hs.fit, ⟨hr.tm, hr.sz, hr.df, hr.hr, fun n x h => (by cases h), hr.pm, hr.gl⟩, hs.df, hr.fr⟩ b k cs hb hp
theorem WX_turn {c : Code} {σ' : St} (ht : ∀ M F pin ρ a w, SR C M F pin ρ σ a w → ∃ M' ρ', M.le M' ∧ SR C M' F pin ρ' σ' a w) (h : WX C c Q K ds σ') : WX C c Q K ds σ := by
 intro A M ρ a w hs b k cs hb hp
 obtain ⟨M', ρ', h1, h2⟩ := ht M _ pin0 ρ ⟨a.tmps, []⟩ w ⟨hs.sr, hs.fr⟩
 have hf : Fit A K.Rd F0 M' w := ⟨hs.fit.fa, fun b hb => by
   obtain ⟨o, ho⟩ := Option.ne_none_iff_exists'.1 (hs.fit.rm b hb)
   rw [h1 b o ho]; simp, hs.fit.lt⟩
 exact h A M' ρ' a w ⟨hf, h2.toSR0, hs.df, h2.fr⟩ b k cs hb (hp.on h1 (.refl _))
abbrev ZX := Imm → World → Frame → List Item → List Frame → Prop
def Up (Z : ZX) : Prop := ∀ M M' w w' b k cs, Z M w b k cs → M.le M' → Same w w' → Z M' w' b k cs
def RX (C : Ctx) (ops : Array Oper) (i : Nat) (Z : ZX) (K : Tr C.P) (ds : List Deferred) (σ : St) : Prop :=
 ∀ A M ρ a w, SX C A K.Rd M ds ρ (σ.nx + 8 * i) σ a w → ∀ b k cs, b.kind ≠ .early → Z M w b k cs → K.T A (G (b.at a (.inRegion ops (List.range' i (ops.size - i)) :: k)) cs) w
def PZ (C : Ctx) (Q : QX C.P) : ZX := fun M w b k cs => PX C M w Q b k cs
theorem PZ.up : Up (PZ C Q) := fun M M' w w' b k cs h hM hw => PX.on h hM hw
theorem RX_region {id : Nat} {ops : Array Oper} (h : RX C ops 0 (PZ C Q) K ds σ) : WX C (.region id ops false) Q K ds σ := by
 intro A M ρ a w hs b k cs hb hp
 refine K.idle rfl (fun _ => stepG_region) ?_
 rw [List.range_eq_range']
 exact h A M ρ a w hs b k cs hb hp
theorem RX_end {ops : Array Oper} {n : Nat} (hn : ops.size = n) {m : Nat} (hm : σ.nx + 8 * n = m) (h : Q .normal K ds ⟨σ.t, σ.h, m⟩) : RX C ops n (PZ C Q) K ds σ := by
 intro A M ρ a w hs b k cs hb hp
 subst hm
 rw [hn, Nat.sub_self]
 exact K.idle rfl (fun _ => stepG_region_end) (hp .normal K ds A M ρ ⟨σ.t, σ.h, σ.nx + 8 * n⟩ a w (Imm.le_refl _) (.refl _) ⟨hs.fit, ⟨hs.sr.tm, hs.sr.sz, hs.sr.df, hs.sr.hr, hs.sr.pn, hs.sr.pm, hs.sr.gl⟩, hs.df, hs.fr⟩ h)
theorem RX_ops {Z : ZX} (hZ : Up Z) {ops : Array Oper} : ∀ (l : List Oper) (i : Nat) (σ : St), (∀ j, j < l.length → ops[i + j]? = l[j]?) →
   wops C ops.toList i l σ none (fun σ' => RX C ops (i + l.length) Z K ds ⟨σ'.t, σ'.h, σ.nx⟩) → RX C ops i Z K ds σ := by
 intro l
 induction l with
 | nil => intro i σ _ h; exact h.2
 | cons o l ih =>
   intro i σ hl h A M ρ a w hs b k cs hb hp
   have ho : ops[i]? = some o := by have := hl 0 (by simp); simpa using this
   have hlt : i < ops.size := (Array.getElem?_eq_some_iff.1 ho).1
   have hl' : ∀ j, j < l.length → ops[(i + 1) + j]? = l[j]? := fun j hj => by
     have := hl (j + 1) (by simp; omega)
     rw [show i + 1 + j = i + (j + 1) by omega]; simpa using this
   have hrange : List.range' i (ops.size - i) = i :: List.range' (i + 1) (ops.size - (i + 1)) := by
     rw [show ops.size - i = (ops.size - (i + 1)) + 1 by omega, List.range'_succ]
   rw [hrange]
   have next : ∀ σ', σ'.nx = σ.nx → wops C ops.toList (i + 1) l σ' none (fun σ' => RX C ops (i + (o :: l).length) Z K ds ⟨σ'.t, σ'.h, σ.nx⟩) → RX C ops (i + 1) Z K ds σ' := fun σ' hn h => by
     refine ih (i + 1) σ' hl' ?_
     rw [hn]
     have e : i + (o :: l).length = i + 1 + l.length := by simp; omega
     rw [e] at h; exact h
   have on : ∀ (hd : dstOK C o = true) (hg : gOn ops.toList σ.t o) bs RS, OpOK C o (σ.nx + 8 * i) (opv C σ.t) bs RS → (∀ p, p ∈ bs → σ.h p.1 = some p.2) →
       (∀ u wr, RS u wr → wops C ops.toList (i + 1) l (σ.app o.dst u wr) none (fun σ' => RX C ops (i + (o :: l).length) Z K ds ⟨σ'.t, σ'.h, σ.nx⟩)) → K.T A (G (b.at a (.inRegion ops (i :: List.range' (i + 1) (ops.size - (i + 1))) :: k)) cs) w := by
     intro hd hg bs RS hok hbs hnext
     refine hok K A F0 M ρ a σ.h w hs.fit (fun x _ => hs.op x) hs.sr.gl hs.sr.hr hbs (fun n h1 h2 => hs.fr n h1) o.guard b ops i _ k cs ho (wanted_on hs.sr hg) hb ?_
     intro A' M' ρ' u wr u' w' h0 h1 h2 h3 h4 h5 h5f h6 h7
     refine next (σ.app o.dst u wr) rfl (hnext u wr h4) A' M' ρ' _ w' (hs.app (by unfold dstOK at hd; exact hd) h5f h1 h2 h5 h6 ?_) b k cs hb (hZ _ _ _ _ _ _ _ hp h1 h7)
     intro n hn
     have hn' : σ.nx + 8 * (i + 1) ≤ n := hn
     rw [h3 n (.inr (by omega))]
     exact hs.fr n (by omega)
   unfold wops at h
   rcases h with ⟨fp, σ', ⟨hd, hD⟩, hrest⟩ | ⟨_, hd, hg, bs, RS, hok, hbs, hnext⟩
   · rcases hD with ⟨hg, bs, u, wr, hok, hbs, _, _, rfl⟩ | ⟨hg, _, rfl⟩
     · exact on hd hg bs _ hok hbs (fun u' wr' ⟨e1, e2⟩ => by subst e1; subst e2; exact hrest)
     · refine K.idle rfl (fun _ => stepG_unwanted ho (wanted_off hs.sr hg)) ?_
       refine next (σ.app o.dst (.tup []) []) rfl hrest A M ρ _ w (hs.app (wr := []) (by unfold dstOK at hd; exact hd) hs.fit (Imm.le_refl _) (Names.le_refl _) VR.skip hs.sr.hr ?_) b k cs hb hp
       intro n hn
       have hn' : σ.nx + 8 * (i + 1) ≤ n := hn
       exact hs.fr n (by omega)
   · exact on hd hg bs RS hok hbs hnext
theorem RX_step {Z : ZX} {ops : Array Oper} {i : Nat} {o : Oper} (ho : ops[i]? = some o) (h : ∀ A M ρ a w, SX C A K.Rd M ds ρ (σ.nx + 8 * i) σ a w → ∀ b k cs, b.kind ≠ .early → Z M w b k cs →
     K.T A (G (b.at a (.inRegion ops (i :: List.range' (i + 1) (ops.size - (i + 1))) :: k)) cs) w) : RX C ops i Z K ds σ := by
 intro A M ρ a w hs b k cs hb hp
 have hlt : i < ops.size := (Array.getElem?_eq_some_iff.1 ho).1
 have hrange : List.range' i (ops.size - i) = i :: List.range' (i + 1) (ops.size - (i + 1)) := by
   rw [show ops.size - i = (ops.size - (i + 1)) + 1 by omega, List.range'_succ]
 rw [hrange]
 exact h A M ρ a w hs b k cs hb hp
end
end Go.Proofs.YtpdojmebloekgaaDoor.Nice.Co
namespace Go.Proofs.YtpdojmebloekgaaDoor.Nice.Co
open Go Go.Conc
open Go.ConcR (KK WgAt stA smA mk DC0)
set_option linter.unusedVariables false
set_option linter.unusedSimpArgs false
inductive Ps where
 | p0
 | p1 (Ch : Nat)
 | p2 (Wg Ch : Nat) (ty : TypeId)
def chObj : Obj := .chan 0 #[] false 0 0 false
def wgObj (ty : TypeId) : Obj := Go.ConcR.wgBlock ty 0 0
structure Made (w w' : World) (o : Obj) : Prop where
 same : Same w w'
 size : w'.heap.size = w.heap.size + 1
 at_ : w'.heap[w.heap.size]? = some o
 keep : ∀ b, b < w.heap.size → w'.heap[b]? = w.heap[b]?
abbrev ContP := Ps → Blks → Goroutine → World → Prop
inductive NodeP (P : Program) (Pst : Value → World → Prop) (Rd : Blks) (K : ContP) (ps : Ps) (A : Blks) (g : Goroutine) (w : World) : Prop
 | own (hs : g.status = .running) (h : ∀ w₁, Rely A Rd w w₁ → ∃ g' w' es, stepG P true g w₁ = .go g' w' es ∧ Guar A Rd w₁ w' es ∧ K ps (more A w₁ w') g' w')
 | ret (hs : g.status = .running) (h : ∀ w₁, Rely A Rd w w₁ → ∃ v es, stepG P true g w₁ = .ended (.done v) w₁ es ∧ (∀ e, e ∈ es → EvOk A Rd e) ∧ Pst v w₁)
 | mkCh (hs : g.status = .running) (hp : ps = .p0) (h : ∀ w₁, Rely A Rd w w₁ → ∃ g' w', stepG P true g w₁ = .go g' w' #[] ∧ Made w₁ w' chObj ∧ K (.p1 w₁.heap.size) A g' w')
 | mkWg (hs : g.status = .running) (Ch : Nat) (ty : TypeId) (hp : ps = .p1 Ch) (h : ∀ w₁, Rely A Rd w w₁ → ∃ g' w', stepG P true g w₁ = .go g' w' #[] ∧ Made w₁ w' (wgObj ty) ∧ K (.p2 w₁.heap.size Ch ty) A g' w')
 | start (p : Pr) (hp : ps = .p2 p.Wg p.Ch p.ty) (h : Apt p A Rd → ∀ w₁, Rely A Rd w w₁ → WgLv p w₁ → Run P p Pst true ⟨A, Rd, 0, .spawn 0 false⟩ g w₁)
section
variable {P : Program} {Pst : Value → World → Prop} {Rd : Blks} {K K' : ContP} {ps : Ps} {A : Blks} {g : Goroutine} {w w₀ : World}
theorem NodeP.mono (h : ∀ ps A g w, K ps A g w → K' ps A g w) (n : NodeP P Pst Rd K ps A g w) : NodeP P Pst Rd K' ps A g w := by
 cases n with
 | own hs hn => exact .own hs fun w₁ h₁ => let ⟨g', w', es, a, b, c⟩ := hn w₁ h₁; ⟨g', w', es, a, b, h _ _ _ _ c⟩
 | ret hs hn => exact .ret hs hn
 | mkCh hs hp hn => exact .mkCh hs hp fun w₁ h₁ => let ⟨g', w', a, b, c⟩ := hn w₁ h₁; ⟨g', w', a, b, h _ _ _ _ c⟩
 | mkWg hs Ch ty hp hn => exact .mkWg hs Ch ty hp fun w₁ h₁ => let ⟨g', w', a, b, c⟩ := hn w₁ h₁; ⟨g', w', a, b, h _ _ _ _ c⟩
 | start p hp hn => exact .start p hp hn
theorem NodeP.rely (n : NodeP P Pst Rd K ps A g w) (r : Rely A Rd w w₀) : NodeP P Pst Rd K ps A g w₀ := by
 cases n with
 | own hs hn => exact .own hs fun w₁ h₁ => hn w₁ (r.trans h₁)
 | ret hs hn => exact .ret hs fun w₁ h₁ => hn w₁ (r.trans h₁)
 | mkCh hs hp hn => exact .mkCh hs hp fun w₁ h₁ => hn w₁ (r.trans h₁)
 | mkWg hs Ch ty hp hn => exact .mkWg hs Ch ty hp fun w₁ h₁ => hn w₁ (r.trans h₁)
 | start p hp hn => exact .start p hp fun ha w₁ h₁ => hn ha w₁ (r.trans h₁)
end
section
variable (P : Program) (Pst : Value → World → Prop) (Rd : Blks)
def PreR : Rank → ContP
 | .node α f => fun ps A g w => NodeP P Pst Rd (fun ps A g w => ∃ a, PreR (f a) ps A g w) ps A g w
def PreT : ContP := fun ps A g w => ∃ r, PreR P Pst Rd r ps A g w
end
section
variable {P : Program} {Pst : Value → World → Prop} {Rd : Blks} {ps : Ps} {A : Blks} {g : Goroutine} {w w₁ : World}
def BelowP (P : Program) (Pst : Value → World → Prop) (Rd : Blks) (r : Rank) : ContP := fun ps A g w => ∃ r', r'.Lt r ∧ PreR P Pst Rd r' ps A g w
theorem PreR.node {r : Rank} (h : PreR P Pst Rd r ps A g w) : NodeP P Pst Rd (BelowP P Pst Rd r) ps A g w := by
 cases r with
 | node α f => exact NodeP.mono (fun ps A g w ⟨a, h⟩ => ⟨f a, .mk α f a, h⟩) h
theorem PreR.rely {r : Rank} (h : PreR P Pst Rd r ps A g w) (x : Rely A Rd w w₁) : PreR P Pst Rd r ps A g w₁ := by
 cases r with
 | node α f => exact NodeP.rely h x
theorem PreT.intro (h : NodeP P Pst Rd (PreT P Pst Rd) ps A g w) : PreT P Pst Rd ps A g w := by
 let α : Type := { q : Ps × Blks × Goroutine × World // PreT P Pst Rd q.1 q.2.1 q.2.2.1 q.2.2.2 }
 refine ⟨.node α fun a => Classical.choose a.2, NodeP.mono (fun ps A g w h => ⟨⟨(ps, A, g, w), h⟩, Classical.choose_spec h⟩) h⟩
end
def trPre (P : Program) (Pst : Value → World → Prop) (Rd : Blks) (ps : Ps) : Tr P where
 main := true
 Rd := Rd
 T := fun A g w => PreT P Pst Rd ps A g w
 step := fun A g w hs h => PreT.intro (.own hs h)
 rely := fun A g w w₁ ⟨r, h⟩ x => ⟨r, h.rely x⟩
def PsAt (A Rd : Blks) (w : World) : Ps → Prop
 | .p0 => True
 | .p1 Ch => w.heap[Ch]? = some chObj ∧ ¬ A Ch ∧ ¬ Rd Ch
 | .p2 Wg Ch ty => w.heap[Ch]? = some chObj ∧ ¬ A Ch ∧ ¬ Rd Ch ∧ w.heap[Wg]? = some (wgObj ty) ∧ ¬ A Wg ∧ ¬ Rd Wg
structure PI (A Rd : Blks) (ps : Ps) (w : World) (t : Trace) : Prop where
 a : ∀ b, A b → b < w.heap.size ∧ ¬ Rd b
 r : ∀ b, Rd b → b < w.heap.size
 s : PsAt A Rd w ps
 g : ∀ op, op ∈ t → op.g = 0
 tt : ∀ q x, touchAt t q = some x → (∃ b, blkOf x.loc = some b ∧ (A b ∨ Rd b)) ∧ x.kind ≠ .said
 d : Deaf t 0 = 0
section
variable {P : Program} {Pst : Value → World → Prop} {Rd : Blks} {ps : Ps} {A : Blks} {g g' : Goroutine} {w w' : World} {t : Trace} {sl : Option (Nat × Nat)}
theorem touch_evs {A Rd : Blks} {e : Event} (h : EvOk A Rd e) : ∀ x, (MemAct.ofEvent e).touch? = some x → (∃ b, blkOf x.loc = some b ∧ (A b ∨ Rd b)) ∧ x.kind ≠ .said := by
 intro x hx
 rcases h with ⟨ad, s, rfl, h⟩ | ⟨ad, s, rfl, h⟩ | rfl
 · cases s <;> simp [MemAct.ofEvent, MemAct.touch?] at hx <;> subst hx <;> exact ⟨⟨_, rfl, h⟩, by simp⟩
 · cases s <;> simp [MemAct.ofEvent, MemAct.touch?] at hx <;> subst hx <;> exact ⟨⟨_, rfl, .inl h⟩, by simp⟩
 · simp [noRoomEvent, MemAct.ofEvent, MemAct.touch?] at hx
theorem PI.ev (I : PI A Rd ps w t) {es : Array Event} (h : ∀ e, e ∈ es → EvOk A Rd e) (fn : FuncId) (pos : String) {A' : Blks} (hA : ∀ b, A b → A' b) :
   (∀ op, op ∈ t ++ MemOp.ofEvents 0 fn pos es → op.g = 0) ∧ (∀ q x, touchAt (t ++ MemOp.ofEvents 0 fn pos es) q = some x → (∃ b, blkOf x.loc = some b ∧ (A' b ∨ Rd b)) ∧ x.kind ≠ .said) ∧ Deaf (t ++ MemOp.ofEvents 0 fn pos es) 0 = 0 := by
 refine ⟨fun op hop => ?_, fun q x hx => ?_, by rw [Deaf_own, deaf_ev h, I.d]⟩
 · rcases Array.mem_append.1 hop with h' | h'
   · exact I.g op h'
   · exact Go.ConcR.g_of_ofEvents op h'
 · rcases touch_new hx with ⟨_, hx'⟩ | ⟨_, op, _, hou, hx'⟩
   · obtain ⟨⟨b, h1, h2⟩, h3⟩ := I.tt q x hx'
     exact ⟨⟨b, h1, h2.imp (hA b) id⟩, h3⟩
   · obtain ⟨e, he, rfl⟩ := ops_of hou
     obtain ⟨⟨b, h1, h2⟩, h3⟩ := touch_evs (h e he) x hx'
     exact ⟨⟨b, h1, h2.imp (hA b) id⟩, h3⟩
theorem PI.nil (I : PI A Rd ps w t) (fn : FuncId) (pos : String) : t ++ MemOp.ofEvents 0 fn pos #[] = t := by simp [MemOp.ofEvents]
theorem solo_set : ((#[g] : Array Goroutine).map (Go.Conc.woken P g g' w')).setIfInBounds 0 g' = #[g'] := by
 apply Array.ext_getElem?
 intro k
 cases k with
 | zero => simp
 | succ k => simp
theorem PI.begin (I : PI A Rd ps w t) {p : Pr} (hp : ps = .p2 p.Wg p.Ch p.ty) {r : Rank} (hR : RunR P p Pst r true ⟨A, Rd, 0, .spawn 0 false⟩ g w) : Inv P p Pst #[g] w (fun _ => ⟨A, Rd, 0, .spawn 0 false⟩) (fun _ => r) ⟨0, 0, 0, false⟩ t := by
 subst hp
 obtain ⟨hch, c1, c2, hwg, w1, w2⟩ := I.s
 have hne : p.Wg ≠ p.Ch := by
   intro e
   rw [e, hch] at hwg
   simp [chObj, wgObj, Go.ConcR.wgBlock] at hwg
 have hz : ∀ i, i < (#[g] : Array Goroutine).size → i = 0 := fun i hi => by simpa using hi
 have kn : ∀ q x, touchAt t q = some x → Knows t 0 q := fun q x hx => by
   obtain ⟨op, ho, _⟩ := touch_of hx
   have := knows_own ho
   rwa [I.g op (Array.mem_of_getElem? ho)] at this
 refine ⟨.spawn 0 false rfl rfl (by simp) (fun i h1 h2 => by omega) rfl, ⟨by unfold WgAt; simpa [wgObj] using hwg, 0, hch⟩, ?_, ?_, fun i x hx => ?_, fun a ha hb => ?_, fun i h1 _ h2 => ?_, fun h => ?_, fun h => by cases h⟩
 · refine ⟨fun i j b hi hj hij => by rw [hz i hi, hz j hj] at hij; exact absurd rfl hij, fun i j b hi hj h1 h2 => (I.a b h1).2 h2, fun i b hi h => ⟨(I.a b h).1, fun e => w1 (e ▸ h), fun e => c1 (e ▸ h)⟩, fun i b hi h => ⟨I.r b h, fun e => w2 (e ▸ h), fun e => c2 (e ▸ h)⟩, (Array.getElem?_eq_some_iff.1 hwg).1, (Array.getElem?_eq_some_iff.1 hch).1, hne⟩
 · refine ⟨fun q op hq => ?_, fun i l b hi hl hb q x hx hxl => ?_, fun i l b hi hl hb q x hx hxl _ => ?_, fun q x hx hb => ?_, fun q x b hx hb => ?_, fun q x hx hk => absurd hk (I.tt q x hx).2, fun said => ?_, fun i hi => ?_⟩
   · rw [I.g op (Array.mem_of_getElem? hq)]; simp
   · rw [hz i hi]; exact kn q x hx
   · rw [hz i hi]; exact kn q x hx
   · obtain ⟨⟨b, h1, h2⟩, _⟩ := I.tt q x hx
     rcases hb with hb | hb <;> rw [hb] at h1 <;> cases h1
     · exact (h2.elim w1 w2).elim
     · exact (h2.elim c1 c2).elim
   · obtain ⟨⟨b', h1, h2⟩, _⟩ := I.tt q x hx
     rw [hb] at h1; cases h1
     exact h2.elim (fun h => (I.a _ h).1) (I.r _)
   · have := noRace_append (t := #[]) (u := t) (g := 0) (Go.ConcN.noRace_nil said) (fun op hop => I.g op hop) (fun i a ha => by simp [touchAt, Trace.act?] at ha)
     simpa using this
   · rw [hz i hi]; exact I.d
 · have : i = 0 := hz i (Array.getElem?_eq_some_iff.1 hx).1
   subst this
   simp at hx; subst hx
   exact Sit.of_run hR (.inr (by simp))
 · simp at ha; subst ha
   rcases hR.node.status with h | ⟨_, h, _⟩
   · rw [h] at hb; cases hb
   · cases h
 · simp at h2; omega
 · simp at h
theorem PreR.good : ∀ {r : Rank} {ps : Ps} {A : Blks} {g : Goroutine} {w : World} {sl : Option (Nat × Nat)} {t : Trace}, PreR P Pst Rd r ps A g w → PI A Rd ps w t →
   ∃ N last o w' t', runNT P (N + 1) (crowd #[g] w sl) t = (.ended o w', t') ∧ runN P N (crowd #[g] w sl) = .next last ∧ Go.step P last = .ended o w' ∧ Go.Conc.Good P Pst last o w' t' := by
 intro r
 induction r using Rank.wf.induction with
 | _ r ih =>
 intro ps A g w sl t h I
 have hat : ∀ d, Rely A Rd w (w.at d) := fun d => ⟨⟨rfl, rfl, rfl, Nat.le_refl _⟩, fun _ _ => rfl⟩
 have pick : g.status = .running → ∃ (d : Nat) (sl' : Option (Nat × Nat)), stepT P (crowd #[g] w sl) = runT P (crowd #[g] (w.at d) sl') 0 := fun hs => by
   obtain ⟨i, g', d, sl', hi, hr, he⟩ := crowd_pick (P := P) (gs := #[g]) (w := w) (sl := sl) (fun x hx => by simp at hx; subst hx; intro tm; rw [hs]; simp) ⟨0, g, by simp, hs⟩
   have : i = 0 := by have := (Array.getElem?_eq_some_iff.1 hi).1; simpa using this
   subst this
   exact ⟨d, sl', he⟩
 have on : ∀ {ps' : Ps} {A' : Blks} {g' : Goroutine} {w' : World} {sl' : Option (Nat × Nat)} {ops : Trace}, stepT P (crowd #[g] w sl) = (.next (crowd #[g'] w' sl'), ops) → BelowP P Pst Rd r ps' A' g' w' → PI A' Rd ps' w' (t ++ ops) →
     ∃ N last o w' t', runNT P (N + 1) (crowd #[g] w sl) t = (.ended o w', t') ∧ runN P N (crowd #[g] w sl) = .next last ∧ Go.step P last = .ended o w' ∧ Go.Conc.Good P Pst last o w' t' := by
   rintro ps' A' g' w' sl' ops hs ⟨r', hlt, hR⟩ hI
   obtain ⟨n, last, o, w'', t', h1, h2, h3, h4⟩ := ih r' hlt (sl := sl') hR hI
   exact ⟨n + 1, last, o, w'', t', by rw [runNT_succ_next hs]; exact h1, by rw [runN_succ_next hs]; exact h2, h3, h4⟩
 cases h.node with
 | own hs hn =>
   obtain ⟨d, sl', he⟩ := pick hs
   obtain ⟨g', w', es, a, b, c⟩ := hn _ (hat d)
   have hrun := runT_crowd_go (P := P) (gs := #[g]) (w := w.at d) (sl := sl') (i := 0) (g := g) (by simp) (by simpa using a)
   rw [solo_set] at hrun
   obtain ⟨k1, k2, k3⟩ := I.ev b.evs g.frame.fn g.frame.place (A' := more A (w.at d) w') (fun b h => .inl h)
   refine on (he.trans hrun) c ⟨fun x hx => ?_, fun x hx => Nat.lt_of_lt_of_le (I.r x hx) b.same.size, ?_, k1, k2, k3⟩
   · rcases hx with hx | ⟨h1, h2⟩
     · exact ⟨Nat.lt_of_lt_of_le (I.a x hx).1 b.same.size, (I.a x hx).2⟩
     · exact ⟨h2, fun hr => by have := I.r x hr; have h1' : w.heap.size ≤ x := h1; omega⟩
   · have keep : ∀ x, x < w.heap.size → ¬ A x → w'.heap[x]? = w.heap[x]? := fun x h1 h2 => b.keep x h1 h2
     have nomore : ∀ x, x < w.heap.size → ¬ A x → ¬ more A (w.at d) w' x := fun x h1 h2 h => h.elim h2 fun h => by have := h.1; have h1' : w.heap.size ≤ x := this; omega
     cases ps with
     | p0 => trivial
     | p1 Ch =>
       obtain ⟨e1, e2, e3⟩ := I.s
       have hlt := (Array.getElem?_eq_some_iff.1 e1).1
       exact ⟨by rw [keep _ hlt e2]; exact e1, nomore _ hlt e2, e3⟩
     | p2 Wg Ch ty =>
       obtain ⟨e1, e2, e3, f1, f2, f3⟩ := I.s
       have hlt := (Array.getElem?_eq_some_iff.1 e1).1
       have hlt2 := (Array.getElem?_eq_some_iff.1 f1).1
       exact ⟨by rw [keep _ hlt e2]; exact e1, nomore _ hlt e2, e3, by rw [keep _ hlt2 f2]; exact f1, nomore _ hlt2 f2, f3⟩
 | ret hs hn =>
   obtain ⟨d, sl', he⟩ := pick hs
   obtain ⟨v, es, a, b, c⟩ := hn _ (hat d)
   have hrun : runT P (crowd #[g] (w.at d) sl') 0 = (.ended (.done v) (w.at d), MemOp.ofEvents 0 g.frame.fn g.frame.place es) := by
     have hsw := swapAt_of_lt (gs := #[g]) (i := 0) (by simp) { (default : Goroutine) with status := .finished }
     show runT P { world := w.at d, gs := #[g], rest := { timers := #[], alone := none, slice := sl' } } 0 = _
     unfold runT
     simp only [hsw, beq_self_eq_true, List.getElem_toArray, List.getElem_cons_zero, a, GStep.es]
   rw [hrun] at he
   obtain ⟨k1, k2, k3⟩ := I.ev b g.frame.fn g.frame.place (A' := A) (fun b h => h)
   refine ⟨0, _, .done v, w.at d, t ++ MemOp.ofEvents 0 g.frame.fn g.frame.place es, by simp [runNT, he], rfl, by simp [Go.step, he], v, rfl, c, fun said => ?_, ?_, ⟨?_, rfl⟩, ?_⟩
   · have := noRace_append (t := #[]) (u := t ++ MemOp.ofEvents 0 g.frame.fn g.frame.place es) (g := 0) (Go.ConcN.noRace_nil said) k1 (fun i a ha => by simp [touchAt, Trace.act?] at ha)
     simpa using this
   · intro i j hg hne
     obtain ⟨op, ho, hog⟩ := Option.map_eq_some_iff.1 hg
     rw [k1 op (Array.mem_of_getElem? ho)] at hog
     exact absurd hog.symm hne
   · intro x hx
     have e : (crowd #[g] w sl).gs.toList.drop 1 = [] := rfl
     rw [e] at hx; cases hx
   · intro i x hx hi
     exfalso
     have := (Array.getElem?_eq_some_iff.1 hx).1
     simp [crowd] at this
     exact hi this
 | mkCh hs hp hn =>
   subst hp
   obtain ⟨d, sl', he⟩ := pick hs
   obtain ⟨g', w', a, b, c⟩ := hn _ (hat d)
   have hrun := runT_crowd_go (P := P) (gs := #[g]) (w := w.at d) (sl := sl') (i := 0) (g := g) (by simp) (by simpa using a)
   rw [solo_set] at hrun
   refine on (he.trans hrun) c ?_
   rw [I.nil]
   have hsz : w'.heap.size = w.heap.size + 1 := b.size
   refine ⟨fun x hx => ⟨by have := (I.a x hx).1; omega, (I.a x hx).2⟩, fun x hx => by have := I.r x hx; omega, ⟨b.at_, fun h => ?_, fun h => ?_⟩, I.g, I.tt, I.d⟩
   · have := (I.a _ h).1; exact Nat.lt_irrefl _ this
   · have := I.r _ h; exact Nat.lt_irrefl _ this
 | mkWg hs Ch ty hp hn =>
   subst hp
   obtain ⟨d, sl', he⟩ := pick hs
   obtain ⟨g', w', a, b, c⟩ := hn _ (hat d)
   have hrun := runT_crowd_go (P := P) (gs := #[g]) (w := w.at d) (sl := sl') (i := 0) (g := g) (by simp) (by simpa using a)
   rw [solo_set] at hrun
   refine on (he.trans hrun) c ?_
   rw [I.nil]
   obtain ⟨e1, e2, e3⟩ := I.s
   have hlt := (Array.getElem?_eq_some_iff.1 e1).1
   have hsz : w'.heap.size = w.heap.size + 1 := b.size
   refine ⟨fun x hx => ⟨by have := (I.a x hx).1; omega, (I.a x hx).2⟩, fun x hx => by have := I.r x hx; omega, ⟨by rw [b.keep _ hlt]; exact e1, e2, e3, b.at_, fun h => ?_, fun h => ?_⟩, I.g, I.tt, I.d⟩
   · have := (I.a _ h).1; exact Nat.lt_irrefl _ this
   · have := I.r _ h; exact Nat.lt_irrefl _ this
 | start p hp hn =>
   have hI := I
   have hs := I.s
   subst hp
   obtain ⟨e1, e2, e3, f1, f2, f3⟩ := hs
   obtain ⟨r', hR⟩ := hn (fun b hb => ⟨fun e => hb.elim (fun h => f2 (e ▸ h)) fun h => f3 (e ▸ h), fun e => hb.elim (fun h => e2 (e ▸ h)) fun h => e3 (e ▸ h)⟩) w (.refl w) ⟨⟨0, 0, f1⟩, (Array.getElem?_eq_some_iff.1 e1).1⟩
   exact Inv.run _ _ _ _ _ _ _ _ rfl (hI.begin rfl hR)
end
end Go.Proofs.YtpdojmebloekgaaDoor.Nice.Co
