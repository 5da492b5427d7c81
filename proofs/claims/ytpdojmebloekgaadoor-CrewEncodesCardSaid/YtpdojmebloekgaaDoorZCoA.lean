/- A goroutine beside others: what it owns, what it may read, what the others leave alone; a memory told for such a one. -/
import Derived.Test.YtpdojmebloekgaaDoorNiceP
import Derived.Conc.Own5
import Derived.Conc.Listed
import Derived.Conc.CompanyDraw
namespace Go.Proofs.YtpdojmebloekgaaDoor.Nice.Co
open Go Go.Conc
set_option linter.unusedVariables false

abbrev Blks := Nat → Prop

/-- What the others may have done: what is owned and what is read stands. -/
structure Rely (A Rd : Blks) (w w₁ : World) : Prop where
  same : Same w w₁
  keep : ∀ b, A b ∨ Rd b → w₁.heap[b]? = w.heap[b]?
theorem Rely.refl {A Rd : Blks} (w : World) : Rely A Rd w w := ⟨.refl w, fun _ _ => rfl⟩
theorem Rely.trans {A Rd : Blks} {a b c : World} (h : Rely A Rd a b) (k : Rely A Rd b c) : Rely A Rd a c := ⟨h.same.trans k.same, fun x hx => (k.keep x hx).trans (h.keep x hx)⟩

/-- What a step may list. -/
def EvOk (A Rd : Blks) (e : Event) : Prop :=
  (∃ ad s, e = ⟨.cell ad, false, s⟩ ∧ (A ad.block ∨ Rd ad.block)) ∨ (∃ ad s, e = ⟨.cell ad, true, s⟩ ∧ A ad.block) ∨ e = noRoomEvent
/-- What a step of one's own does. -/
structure Guar (A Rd : Blks) (w w' : World) (es : Array Event) : Prop where
  same : Same w w'
  keep : ∀ b, b < w.heap.size → ¬ A b → w'.heap[b]? = w.heap[b]?
  evs : ∀ e, e ∈ es → EvOk A Rd e
theorem Guar.idle {A Rd : Blks} (w : World) : Guar A Rd w w #[] := ⟨.refl w, fun _ _ _ => rfl, fun e he => by simp at he⟩

/-- What is owned, with the blocks that a step has made. -/
def more (A : Blks) (w w' : World) : Blks := fun b => A b ∨ (w.heap.size ≤ b ∧ b < w'.heap.size)
theorem more_self (A : Blks) (w : World) : more A w w = A := by
  funext b; apply propext; unfold more
  exact ⟨fun h => h.elim id fun h => absurd h.2 (Nat.not_lt.2 h.1), .inl⟩

/-- What is told of a goroutine by its steps, whatever is told at its end. -/
structure Tr (P : Program) where
  main : Bool
  Rd : Blks
  T : Blks → Goroutine → World → Prop
  step : ∀ (A : Blks) (g : Goroutine) (w : World), g.status = .running →
    (∀ w₁, Rely A Rd w w₁ → ∃ g' w' es, stepG P main g w₁ = .go g' w' es ∧ Guar A Rd w₁ w' es ∧ T (more A w₁ w') g' w') → T A g w
  rely : ∀ (A : Blks) (g : Goroutine) (w w₁ : World), T A g w → Rely A Rd w w₁ → T A g w₁

/-- A step that turns nothing. -/
theorem Tr.idle {P : Program} (K : Tr P) {A : Blks} {g g' : Goroutine} {w : World} (hs : g.status = .running) (h : ∀ w₁, stepG P K.main g w₁ = .go g' w₁ #[]) (k : K.T A g' w) : K.T A g w :=
  K.step A g w hs fun w₁ h₁ => ⟨g', w₁, #[], h w₁, Guar.idle w₁, by rw [more_self]; exact K.rely A g' w w₁ k h₁⟩

/-- The frame as the lone calculus wants it: what is not one's own is told as it stands. -/
noncomputable def ext (A Rd : Blks) (F : Imm) (w : World) : Imm := fun b =>
  open Classical in if A b ∨ Rd b then F b else w.heap[b]?
structure Fit (A Rd : Blks) (F M : Imm) (w : World) : Prop where
  fa : ∀ b, F b ≠ none → A b
  rm : ∀ b, Rd b → M b ≠ none
  lt : ∀ b, A b → b < w.heap.size

theorem ext_in {A Rd : Blks} {F : Imm} {w : World} {b : Nat} (h : A b ∨ Rd b) : ext A Rd F w b = F b := by unfold ext; rw [if_pos h]
theorem ext_out {A Rd : Blks} {F : Imm} {w : World} {b : Nat} (h : ¬ (A b ∨ Rd b)) : ext A Rd F w b = w.heap[b]? := by unfold ext; rw [if_neg h]
/-- Whatever is told to be nobody's frame and is there is one's own or read. -/
theorem acc_of {A Rd : Blks} {F : Imm} {w : World} {b : Nat} {o : Obj} (h : ext A Rd F w b = none) (hb : w.heap[b]? = some o) : A b ∨ Rd b := by
  by_cases e : A b ∨ Rd b
  · exact e
  · rw [ext_out e, hb] at h; cases h

section
variable {A Rd : Blks} {M F : Imm} {ρ : Names} {h : Heap} {w w₁ : World}
theorem acc_M (H : HR M (ext A Rd F w) ρ h w) {b : Nat} (hb : M b ≠ none) : A b ∨ Rd b := by
  obtain ⟨o, ho⟩ := Option.ne_none_iff_exists'.1 hb
  refine Classical.byContradiction fun e => hb (H.dis b o ?_)
  rw [ext_out e]; exact H.imm b o ho
theorem own_A (f : Fit A Rd F M w) {b : Nat} {o : Obj} (hM : M b = none) (hF : ext A Rd F w b = none) (hb : w.heap[b]? = some o) : A b :=
  (acc_of hF hb).elim id fun hr => absurd hM (f.rm b hr)
/-- A block of one's own lies among what one owns. -/
theorem own_live (H : HR M (ext A Rd F w) ρ h w) (f : Fit A Rd F M w) {n : Nat} {blk : Blk} {x : Own} (hn : h n = some blk) (hx : ρ n = some x) (h0 : 0 < x.R) : A x.b := by
  obtain ⟨x', hx', hr⟩ := H.live n blk hn
  rw [hx] at hx'; obtain rfl := Option.some.inj hx'
  rcases hr with ⟨h00, _⟩ | ⟨_, h1, h2, o, h3, _⟩
  · omega
  · exact own_A f h1 h2 h3

/-- The others' doing leaves what is told. -/
theorem hr_rely (H : HR M (ext A Rd F w) ρ h w) (f : Fit A Rd F M w) (r : Rely A Rd w w₁) : HR M (ext A Rd F w₁) ρ h w₁ := by
  have exto : ∀ b, A b ∨ Rd b → ext A Rd F w₁ b = ext A Rd F w b := fun b hb => by rw [ext_in hb, ext_in hb]
  refine ⟨fun b o hb => ?_, fun b o hb => ?_, fun b o hb => ?_, fun n blk hn => ?_, H.sep, ?_⟩
  · rw [r.keep b (acc_M H (by rw [hb]; simp))]; exact H.imm b o hb
  · by_cases e : A b ∨ Rd b
    · rw [exto b e] at hb; rw [r.keep b e]; exact H.frm b o hb
    · rw [ext_out e] at hb; exact hb
  · by_cases e : A b ∨ Rd b
    · rw [exto b e] at hb; exact H.dis b o hb
    · exact Classical.byContradiction fun hm => e (acc_M H hm)
  · obtain ⟨x, hx, hr⟩ := H.live n blk hn
    refine ⟨x, hx, ?_⟩
    rcases hr with hr | ⟨h0, h1, h2, o, h3, h4⟩
    · exact .inl hr
    · have ha := acc_of h2 h3
      exact .inr ⟨h0, h1, by rw [exto _ ha]; exact h2, o, by rw [r.keep _ ha]; exact h3, h4⟩
  · refine H.famKeep (fun _ _ _ h => h) (Names.le_refl _) (Imm.le_refl _) r.same.size (fun n S es hn b hb g1 g2 => ⟨g1, ?_⟩) (fun n S es x c _ hn hx h0 hc => ?_) (fun _ _ _ m y _ a b _ => .inl ⟨a, b⟩)
    · obtain ⟨_, _, _, k1, _⟩ := H.fam n S es hn
      obtain ⟨_, _, k3⟩ := k1 b hb
      rw [exto b (acc_of g2 (Array.getElem?_eq_getElem k3))]; exact g2
    · rcases hc with rfl | hc
      · obtain ⟨x', hx', hr⟩ := H.live n _ hn
        rw [hx] at hx'; obtain rfl := Option.some.inj hx'
        rcases hr with ⟨h00, _⟩ | ⟨_, _, h2, o, h3, _⟩
        · omega
        · exact r.keep _ (acc_of h2 h3)
      · obtain ⟨_, _, _, k1, _⟩ := H.fam n S es hn
        obtain ⟨_, k2, k3⟩ := k1 c hc
        exact r.keep _ (acc_of k2 (Array.getElem?_eq_getElem k3))
theorem fit_rely (f : Fit A Rd F M w) (r : Rely A Rd w w₁) : Fit A Rd F M w₁ := ⟨f.fa, f.rm, fun b hb => Nat.lt_of_lt_of_le (f.lt b hb) r.same.size⟩

variable {M' : Imm} {ρ' : Names} {h' : Heap} {w' : World}
/-- Behind a step, as the lone calculus tells it: what one owns has grown by what was made. -/
theorem hr_more (H : HR M (ext A Rd F w) ρ h w) (f : Fit A Rd F M w) (hM : M.le M') (H' : HR M' (ext A Rd F w) ρ' h' w') (s : Same w w') : HR M' (ext (more A w w') Rd F w') ρ' h' w' ∧ Fit (more A w w') Rd F M' w' ∧ (∀ b, b < w.heap.size → ¬ A b → w'.heap[b]? = w.heap[b]?) := by
  have keep : ∀ b, b < w.heap.size → ¬ A b → w'.heap[b]? = w.heap[b]? := by
    intro b hb ha
    have ho : w.heap[b]? = some (w.heap[b]'hb) := Array.getElem?_eq_getElem hb
    rw [ho]
    by_cases hr : Rd b
    · obtain ⟨o, ho'⟩ := Option.ne_none_iff_exists'.1 (f.rm b hr)
      have := H.imm b o ho'
      rw [ho] at this; obtain rfl := Option.some.inj this
      exact H'.imm b _ (hM b _ ho')
    · exact H'.frm b _ (by rw [ext_out (fun e => e.elim ha hr)]; exact ho)
  have ft : Fit (more A w w') Rd F M' w' := ⟨fun b hb => .inl (f.fa b hb), fun b hb => by
      obtain ⟨o, ho⟩ := Option.ne_none_iff_exists'.1 (f.rm b hb)
      rw [hM b o ho]; simp, fun b hb => hb.elim (fun hb => Nat.lt_of_lt_of_le (f.lt b hb) s.size) (·.2)⟩
  -- the new frame says what the old one said, and of blocks that others hold now
  have key : ∀ b, ext (more A w w') Rd F w' b = ext A Rd F w b ∨ (w'.heap[b]? = none ∧ ext (more A w w') Rd F w' b = none) := by
    intro b
    by_cases e : A b ∨ Rd b
    · left
      rw [ext_in e, ext_in]
      exact e.elim (fun h => .inl (.inl h)) .inr
    · rw [ext_out e]
      by_cases hb : b < w.heap.size
      · left
        have : ¬ (more A w w' b ∨ Rd b) := by
          rintro ((h1 | h1) | h1)
          · exact e (.inl h1)
          · omega
          · exact e (.inr h1)
        rw [ext_out this]
        exact keep b hb fun h => e (.inl h)
      · by_cases hb' : b < w'.heap.size
        · left
          rw [ext_in (.inl (.inr ⟨by omega, hb'⟩))]
          rw [Array.getElem?_eq_none (by omega)]
          cases hF : F b with
          | none => rfl
          | some o => exact absurd (f.fa b (by rw [hF]; simp)) fun h => e (.inl h)
        · right
          have hn : w'.heap[b]? = none := Array.getElem?_eq_none (by omega)
          refine ⟨hn, ?_⟩
          by_cases e2 : more A w w' b ∨ Rd b
          · rw [ext_in e2]
            cases hF : F b with
            | none => rfl
            | some o => exact absurd (f.fa b (by rw [hF]; simp)) fun h => e (.inl h)
          · rw [ext_out e2]; exact hn
  refine ⟨⟨H'.imm, fun b o hb => ?_, fun b o hb => ?_, fun n blk hn => ?_, H'.sep, ?_⟩, ft, keep⟩
  · rcases key b with e | ⟨_, e⟩
    · rw [e] at hb; exact H'.frm b o hb
    · rw [e] at hb; cases hb
  · rcases key b with e | ⟨_, e⟩
    · rw [e] at hb; exact H'.dis b o hb
    · rw [e] at hb; cases hb
  · obtain ⟨x, hx, hr⟩ := H'.live n blk hn
    refine ⟨x, hx, ?_⟩
    rcases hr with hr | ⟨h0, h1, h2, o, h3, h4⟩
    · exact .inl hr
    · refine .inr ⟨h0, h1, ?_, o, h3, h4⟩
      rcases key x.b with e | ⟨_, e⟩
      · rw [e]; exact h2
      · exact e
  · refine H'.famKeep (fun _ _ _ h => h) (Names.le_refl _) (Imm.le_refl _) (Nat.le_refl _) (fun n S es hn b hb g1 g2 => ⟨g1, ?_⟩) (fun _ _ _ _ _ _ _ _ _ _ => rfl) (fun _ _ _ m y _ a b _ => .inl ⟨a, b⟩)
    rcases key b with e | ⟨_, e⟩
    · rw [e]; exact g2
    · exact e
end
end Go.Proofs.YtpdojmebloekgaaDoor.Nice.Co
