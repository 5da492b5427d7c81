/- Part 7 of the proof of CrewEncodes: MkR, NiceQ, CoI, MkI, Wx, Wp, WgAdd, Ws, WgDone. -/
import Derived.Test.YtpdojmebloekgaaDoorZE6
import Derived.Conc.LeavingOf
import Derived.Laws.IdiomStrings
import Derived.Conc.WgGenN3
import Derived.Conc.WgWords
import Derived.Conc.SmallLaws
namespace Go.Proofs.YtpdojmebloekgaaDoor.Nice.Co
open Go Go.Conc
open Go.ConcR (KK WgAt stA smA mk)
set_option linter.unusedVariables false
set_option linter.unusedSimpArgs false
theorem QuitsD.like {P : Program} {q d : Nat} {g h : Goroutine} (l : Like g h) (hs : g.status = h.status) (hq : QuitsD P q d h) : QuitsD P q d g := by
  cases q with
  | zero => exact ⟨hs.trans hq.1, hq.2⟩
  | succ q => exact hq.imp (fun x => ⟨hs.trans x.1, x.2⟩) fun ⟨a, g', es, b, c, k⟩ => ⟨hs.trans a, g', es, b, fun w => by rw [l.step]; exact c w, k⟩
section
variable {P : Program} {p : Pr} {Pst : Value → World → Prop} {gs : Array Goroutine} {w w' : World} {γ : Nat → Gam} {ρ : Nat → Rank} {s : Sst} {t : Trace} {g g₀ g' : Goroutine} {sl : Option (Nat × Nat)}
theorem Sit.quits {r : Rank} {Γ : Gam} {main : Bool} (S : Sit P p Pst r Γ s main g w) (hl : Γ.lo = .out) : ∃ q, QuitsD P q Γ.deaf g := by
  cases S with
  | on g₀ hk hs hs0 h => obtain ⟨q, hq⟩ := h.quits hl; exact ⟨q, QuitsD.like hk (hs.trans hs0.symm) hq⟩
  | fin hs hm hl hd => exact ⟨0, hs, hd⟩
  | bl _ _ _ _ h => rw [hl] at h; cases h
  | ps _ _ h => rw [hl] at h; cases h
  | pr _ _ _ _ _ _ _ h => have := h.hl; rw [hl] at this; cases this
/-- At the end: all are out. -/
theorem Inv.atEnd (I : Inv P p Pst gs w γ ρ s t) (hf : (γ 0).lo = .fin) : gs.size = p.n + 2 ∧ ∀ j, 1 ≤ j → j < gs.size → (γ j).lo = .out := by
  cases I.pr with
  | spawn j q hN h0 => simp only [los] at h0; rw [hf] at h0; cases h0
  | late hN hm hw md =>
    refine ⟨hN, ?_⟩
    rcases hm with ⟨J, h, _⟩ | ⟨h, hcl⟩
    · simp only [los] at h; rw [hf] at h; cases h
    · cases md with
      | opn B hb ho hB hs => rw [hs] at hcl; cases hcl
      | opc B hb ho hB hs => rw [hs] at hcl; cases hcl
      | reg hb ho hB hs => rw [hs] at hcl; cases hcl
      | last hb L _ _ hL => rcases hL with ⟨_, hs⟩ | ⟨_, hs⟩ <;> rw [hs] at hcl <;> cases hcl
      | sema hb ho hs => rw [hs] at hcl; cases hcl
      | done hb ho hs => rw [hs] at hcl; cases hcl
      | shut hb ho hs =>
        intro j h1 h2
        rcases Nat.lt_or_ge p.n j with h | h
        · have : j = p.n + 1 := by omega
          subst this; exact hb
        · exact ho j h1 h
/-- The return. -/
theorem Inv.stepRet (I : Inv P p Pst gs w γ ρ s t) (hi : gs[0]? = some g) {d : Nat} {sl' : Option (Nat × Nat)} (hl : (γ 0).lo = .fin) {v : Value} {es : Array Event} (hst : stepG P true g (w.at d) = .ended (.done v) (w.at d) es) (hes : ∀ e, e ∈ es → EvOk (γ 0).own (γ 0).rd e) (hp : Pst v (w.at d)) :
    runT P (crowd gs (w.at d) sl') 0 = (.ended (.done v) (w.at d), MemOp.ofEvents 0 g.frame.fn g.frame.place es) ∧ Go.Conc.Good P Pst (crowd gs w sl) (.done v) (w.at d) (t ++ MemOp.ofEvents 0 g.frame.fn g.frame.place es) := by
  have hpos := I.pr.pos
  obtain ⟨hN, hout⟩ := I.atEnd hl
  refine ⟨?_, v, rfl, hp, fun said => ?_, ?_, ⟨?_, rfl⟩, ?_⟩
  · obtain ⟨hlt, rfl⟩ := Array.getElem?_eq_some_iff.1 hi
    have hsw := swapAt_of_lt hlt { (default : Goroutine) with status := .finished }
    show runT P { world := w.at d, gs := gs, rest := { timers := #[], alone := none, slice := sl' } } 0 = _
    unfold runT
    simp only [hsw, beq_self_eq_true, hst, GStep.es]
  · have := I.ti.app I.dj hpos (u := MemOp.ofEvents 0 g.frame.fn g.frame.place es) (fun op h => Go.ConcR.g_of_ofEvents op h) (fun op hop x hx => by
      obtain ⟨e, he, rfl⟩ := ops_of hop
      exact tok_ev (hes e he) x hx) (own' := (γ 0).own) (fun b h => .inl h) (Nat.le_refl _) (d' := Deaf (t ++ MemOp.ofEvents 0 g.frame.fn g.frame.place es) 0) rfl
    exact this.nr said
  · intro i j hg hne hc
    rcases g?_new hg with ⟨hlt, hg'⟩ | ⟨_, op, hop, hog⟩
    · have hc' := (counts_old hlt).1 hc
      have hj : j < gs.size := by
        obtain ⟨op, ho, hog⟩ := Option.map_eq_some_iff.1 hg'
        rw [← hog]; exact I.ti.lt i op ho
      have hk : Knows t 0 i := by
        rcases Nat.lt_or_ge p.n j with h | h
        · have : j = p.n + 1 := by omega
          subst this; exact I.fi hl i hg' hc'
        · exact I.lf j (by omega) h hj (fun k e => by rw [hout j (by omega) hj] at e; cases e) i hg' hc'
      obtain ⟨q, z, hq, hz, hb⟩ := hk.app (MemOp.ofEvents 0 g.frame.fn g.frame.place es)
      refine ⟨q, by simp only [Trace.g?, hq, Option.map_some, hz], ?_⟩
      rcases hb with rfl | hb
      · simp only [Trace.g?, hq, Option.map_some, hz, Option.some.injEq] at hg; exact absurd hg.symm hne
      · exact hb
    · rw [Go.ConcR.g_of_ofEvents op hop] at hog; exact absurd hog.symm hne
  · intro x hx
    obtain ⟨j, hj⟩ := List.mem_iff_getElem?.1 hx
    rw [List.getElem?_drop, Array.getElem?_toList] at hj
    have hlt : 1 + j < gs.size := (Array.getElem?_eq_some_iff.1 hj).1
    obtain ⟨q, hq⟩ := (I.sit (1 + j) x hj).quits (hout _ (by omega) hlt)
    exact ⟨q, hq.leaves⟩
  · intro j x hj hj0
    have hlt : j < gs.size := (Array.getElem?_eq_some_iff.1 hj).1
    obtain ⟨q, hq⟩ := (I.sit j x hj).quits (hout _ (by omega) hlt)
    refine ⟨q, ?_⟩
    have hd : (t ++ MemOp.ofEvents 0 g.frame.fn g.frame.place es).deaf j (t ++ MemOp.ofEvents 0 g.frame.fn g.frame.place es).size = (γ j).deaf := by
      have := Deaf_other t (g := j) (fun x => hj0 x.symm) (MemOp.ofEvents 0 g.frame.fn g.frame.place es) (fun op h => Go.ConcR.g_of_ofEvents op h)
      exact this.trans (I.ti.df j hlt)
    rw [hd]
    exact hq.hears _
/-- Whatever step. -/
theorem Inv.step (I : Inv P p Pst gs w γ ρ s t) : (∃ o w₁ ops, stepT P (crowd gs w sl) = (.ended o w₁, ops) ∧ Go.Conc.Good P Pst (crowd gs w sl) o w₁ (t ++ ops)) ∨
    (∃ gs' w' sl' γ' ρ' s' ops, stepT P (crowd gs w sl) = (.next (crowd gs' w' sl'), ops) ∧ Lt3 (meas gs' ρ') (meas gs ρ) ∧ Inv P p Pst gs' w' γ' ρ' s' (t ++ ops)) := by
  obtain ⟨i, g, d, sl', hg, hrun, hstep⟩ := crowd_pick (P := P) (w := w) (sl := sl) I.awake I.someone
  rw [hstep]
  have I' := I.at d
  have hlti : i < gs.size := (Array.getElem?_eq_some_iff.1 hg).1
  have hposs := I'.pr.poss hlti
  obtain ⟨g₀, hlike, hs0, hR⟩ := (I'.sit i g hg).running hrun
  have nx : Next P p Pst gs (w.at d) sl' ρ t i → (∃ o w₁ ops, runT P (crowd gs (w.at d) sl') i = (.ended o w₁, ops) ∧ Go.Conc.Good P Pst (crowd gs w sl) o w₁ (t ++ ops)) ∨
      (∃ gs' w' sl'' γ' ρ' s' ops, runT P (crowd gs (w.at d) sl') i = (.next (crowd gs' w' sl''), ops) ∧ Lt3 (meas gs' ρ') (meas gs ρ) ∧ Inv P p Pst gs' w' γ' ρ' s' (t ++ ops)) := .inr
  cases hR.node with
  | own hs hl h =>
    obtain ⟨g', w', es, a, b, c, k⟩ := h _ (.refl _)
    exact nx (I'.stepOwn hg (by rw [hlike.step]; exact a) hl b c k)
  | sync hs hl h =>
    obtain ⟨g', w', es, lo', s', a, b, c, e, f, k⟩ := h _ (.refl _) s I'.sh hposs
    exact nx (I'.stepSync hg (by rw [hlike.step]; exact a) hl b c e (f.imp id fun f => by rw [mayWake_like hlike]; exact f) k)
  | wait hs ho hl h =>
    simp only [los, hl] at hposs
    obtain ⟨a, b⟩ := h _ (.refl _) s I'.sh hposs
    exact nx (I'.stepWait hg hlike hrun hs0 ho hl hR a b)
  | spawnW hs hm j hl hd h =>
    have hi0 : i = 0 := by simpa using hm
    subst hi0
    obtain ⟨X, g', ch, a, b, c, e⟩ := h _ (.refl _)
    obtain ⟨hN, hjn, hpr⟩ := I'.pr.begins hl
    refine nx (I'.stepFork hg (by rw [hlike.step]; exact b) a hd (by rw [hl]; simp) hpr ?_ (by simp) (by simp) (fun _ => ⟨_, rfl⟩) (by omega) (fun x h1 h2 => ?_) c e)
    · have h2 : sayr p gs.size = 0 := (I'.spawning hlti hl).2
      by_cases e : gs.size + 1 = p.n + 2
      · omega
      · left; rw [h2]; unfold sayr; rw [if_neg e]
    · cases I'.pr with
      | spawn j' q hN' h0 hj hw => exact ⟨_, hw x h1 (by omega)⟩
      | late hN' hm' => rcases hm' with ⟨J, h, _⟩ | ⟨h, _⟩ <;> simp only [los] at h <;> rw [hl] at h <;> cases h
  | spawnC hs hm hl hd h =>
    have hi0 : i = 0 := by simpa using hm
    subst hi0
    obtain ⟨X, g', ch, a, b, c, e⟩ := h _ (.refl _)
    obtain ⟨hN, hpr⟩ := I'.pr.closes hl
    refine nx (I'.stepFork hg (by rw [hlike.step]; exact b) a hd (by rw [hl]; simp) hpr ?_ (by simp) (by simp) (fun h => by omega) (by omega) (fun x h1 h2 => ?_) c e)
    · have h2 : sayr p gs.size = 0 := (I'.spawning hlti hl).2
      right
      exact ⟨h2, by rw [sayr_late (by omega)]; omega⟩
    · cases I'.pr with
      | spawn j' q hN' h0 hj hw => exact ⟨_, hw x h1 (by omega)⟩
      | late hN' hm' => rcases hm' with ⟨J, h, _⟩ | ⟨h, _⟩ <;> simp only [los] at h <;> rw [hl] at h <;> cases h
  | send hs hm k hl hd g₁ v z M hM hh ht h hk =>
    have hi0 : i ≠ 0 := by simpa using hm
    exact nx (I'.stepSend hg hrun hi0 hl hd hM hh ht (by rw [hm, hlike.step]; exact h _ (.refl _)) hk)
  | recv hm J g₁ z h =>
    have hi0 : i = 0 := by simpa using hm
    subst hi0
    exact nx (I'.stepRecv hg hrun hlike h)
  | ret hs hm hl h =>
    have hi0 : i = 0 := by simpa using hm
    subst hi0
    obtain ⟨v, es, a, b, c⟩ := h _ (.refl _)
    obtain ⟨h1, h2⟩ := I.stepRet (sl := sl) (sl' := sl') hg hl (d := d) (by rw [hlike.step]; exact a) b c
    exact .inl ⟨_, _, _, h1, h2⟩
  | quit hm hl h =>
    have hi0 : i ≠ 0 := by simpa using hm
    rcases h with ⟨h, _⟩ | ⟨_, g', es, a, b, k⟩
    · rw [hs0] at h; cases h
    · exact nx (I'.stepQuit hg hi0 hl a (by rw [hm, hlike.step]; exact b _) (by rw [hm]; exact k))
/-- The run. -/
theorem Inv.run : ∀ (μ : Mea) (gs : Array Goroutine) (w : World) (sl : Option (Nat × Nat)) (γ : Nat → Gam) (ρ : Nat → Rank) (s : Sst) (t : Trace), meas gs ρ = μ → Inv P p Pst gs w γ ρ s t →
    ∃ N last o w' t', runNT P (N + 1) (crowd gs w sl) t = (.ended o w', t') ∧ runN P N (crowd gs w sl) = .next last ∧ Go.step P last = .ended o w' ∧ Go.Conc.Good P Pst last o w' t' := by
  intro μ
  induction μ using Lt3.wf.induction with
  | _ μ ih =>
    intro gs w sl γ ρ s t hμ I
    rcases I.step (sl := sl) with ⟨o, w₁, ops, hs, hq⟩ | ⟨gs', w', sl', γ', ρ', s', ops, hs, hr, hI'⟩
    · exact ⟨0, _, o, w₁, t ++ ops, by simp [runNT, hs], rfl, by simp [Go.step, hs], hq⟩
    · obtain ⟨n, last, o, w'', t', h1, h2, h3, h4⟩ := ih _ (hμ ▸ hr) gs' w' sl' γ' ρ' s' (t ++ ops) rfl hI'
      exact ⟨n + 1, last, o, w'', t', by rw [runNT_succ_next hs]; exact h1, by rw [runN_succ_next hs]; exact h2, h3, h4⟩
end
end Go.Proofs.YtpdojmebloekgaaDoor.Nice.Co
namespace Go.Proofs.YtpdojmebloekgaaDoor.Nice
open Go
set_option linter.unusedVariables false
section
variable {C : Ctx} {ops : List Oper} {i : Nat} {o : Oper} {l : List Oper} {t : Nat → SV} {h h' : Heap} {nx : Nat} {K : St → Prop} {vc : Prop} {bs : List (Nat × Blk)} {u : SV} {wr : List (Nat × Option Blk)} {acc : List FP}
end
end Go.Proofs.YtpdojmebloekgaaDoor.Nice
namespace Go.Proofs.YtpdojmebloekgaaDoor.Nice.Co
open Go Go.Conc
set_option linter.unusedVariables false
set_option linter.unusedSimpArgs false
section
variable {C : Ctx} {ops : List Oper} {i : Nat} {o : Oper} {l : List Oper} {t : Nat → SV} {h h' : Heap} {nx : Nat} {K : St → Prop} {vc : Prop} {bs : List (Nat × Blk)} {u : SV} {wr : List (Nat × Option Blk)} {acc : List FP}
end
end Go.Proofs.YtpdojmebloekgaaDoor.Nice.Co
namespace Go.Proofs.YtpdojmebloekgaaDoor.Nice.Co
open Go Go.Conc
open Go.ConcR (KK WgAt stA smA mk DC0)
set_option linter.unusedVariables false
set_option linter.unusedSimpArgs false
section
variable {P : Program} {p : Pr} {Pst : Value → World → Prop} {main : Bool} {Γ : Gam} {g g' : Goroutine} {w w' : World}
/-- Steps that turn nothing. -/
theorem Run.of_goes (hl : Γ.lo ≠ .out) : ∀ {n : Nat} {g : Goroutine} {w : World}, Goes P main (RelyP p Γ) DC0 (fun g w => Run P p Pst main Γ g w) n g w → Run P p Pst main Γ g w
  | 0, g, w, h => h w (.refl w)
  | n + 1, g, w, h => by
    rcases h with h | ⟨hs, h⟩
    · exact h w (.refl w)
    · refine Run.intro (.own hs hl fun w₁ h₁ => ?_)
      obtain ⟨g', w', es, e, ⟨rfl, rfl⟩, k⟩ := goes_elim (h w₁ h₁)
      exact ⟨g', w', #[], e, fun _ => rfl, Guar.idle _, by rw [more_self]; exact Run.of_goes hl k⟩
/-- What is one's own and what one reads lies apart from the shared blocks. -/
def Apt (p : Pr) (A Rd : Blks) : Prop := ∀ b, A b ∨ Rd b → b ≠ p.Wg ∧ b ≠ p.Ch
theorem Only.relyP (O : Only p w w') (h : Apt p Γ.own Γ.rd) (hl : WgLv p w') : RelyP p Γ w w' := ⟨⟨O.same, fun b hb => O.keep b (h b hb).1 (h b hb).2⟩, fun _ => hl⟩
theorem sh_ne {s : Sst} (h : Sh p s w) : p.Wg ≠ p.Ch := by
  intro e
  obtain ⟨q, hc⟩ := h.ch
  have hw := h.wg
  unfold WgAt at hw
  rw [e, hc] at hw
  simp [Go.ConcR.wgBlock] at hw
theorem Sh.setSt {s : Sst} (h : Sh p s w) (v wt : Nat) {x : Int} (hx : x = (v : Int) * KK + wt) : Sh p ⟨v, wt, s.sm, s.cl⟩ (w.setCell (stA p.Wg) (.int .u64 x)) ∧ Only p w (w.setCell (stA p.Wg) (.int .u64 x)) := by
  subst hx
  have hne := sh_ne h
  have hk : ∀ b, b ≠ p.Wg → (w.setCell (stA p.Wg) (.int .u64 ((v : Int) * KK + wt))).heap[b]? = w.heap[b]? := fun b hb => by
    simp only [World.setCell, stA]
    rw [Array.getElem?_modify, if_neg (fun e => hb e.symm)]
  refine ⟨⟨Go.ConcR.WgAt.setSt h.wg _, let ⟨q, hc⟩ := h.ch; ⟨q, by rw [hk _ (fun e => hne e.symm)]; exact hc⟩⟩, Same.setCell _ _ _, by simp, fun b hb _ => hk b hb⟩
theorem Sh.setSm {s : Sst} (h : Sh p s w) (m : Nat) {x : Int} (hx : x = (m : Int)) : Sh p ⟨s.v, s.wt, m, s.cl⟩ (w.setCell (smA p.Wg) (.int .u32 x)) ∧ Only p w (w.setCell (smA p.Wg) (.int .u32 x)) := by
  subst hx
  have hne := sh_ne h
  have hk : ∀ b, b ≠ p.Wg → (w.setCell (smA p.Wg) (.int .u32 (m : Int))).heap[b]? = w.heap[b]? := fun b hb => by
    simp only [World.setCell, smA]
    rw [Array.getElem?_modify, if_neg (fun e => hb e.symm)]
  refine ⟨⟨Go.ConcR.WgAt.setSm h.wg _, let ⟨q, hc⟩ := h.ch; ⟨q, by rw [hk _ (fun e => hne e.symm)]; exact hc⟩⟩, Same.setCell _ _ _, by simp, fun b hb _ => hk b hb⟩
theorem Only.refl (w : World) : Only p w w := ⟨.refl w, rfl, fun _ _ _ => rfl⟩
/-- A mark. -/
theorem Run.mark (hs : g.status = .running) (hl : Γ.lo ≠ .out) (m : Mark) (hm : MarkOk m) {d' : Nat} (hd : deafBehind Γ.deaf #[mk m] = d') (h : ∀ w₁, RelyP p Γ w w₁ → stepG P main g w₁ = .go g' w₁ #[mk m])
    (hk : ∀ w₁, RelyP p Γ w w₁ → Run P p Pst main ⟨Γ.own, Γ.rd, d', Γ.lo⟩ g' w₁) : Run P p Pst main Γ g w :=
  Run.intro (.sync hs hl fun w₁ h₁ s hsh hp => ⟨g', w₁, #[mk m], Γ.lo, s, h w₁ h₁, .mark m hm, .refl w₁, hsh, .inl ⟨rfl, rfl⟩, by rw [hd]; exact hk w₁ h₁⟩)
end
/-- A goroutine of a crew, as the calculus wants it. -/
def trRun (P : Program) (p : Pr) (Pst : Value → World → Prop) (main : Bool) (Rd : Blks) (d : Nat) (lo : Lo) (hl : lo ≠ .out) (hm : lo.mute = false) : Tr P where
  main := main
  Rd := Rd
  T := fun A g w => Apt p A Rd → ∀ w₁, Rely A Rd w w₁ → WgLv p w₁ → Run P p Pst main ⟨A, Rd, d, lo⟩ g w₁
  step := fun A g w hs h ha w₁ h₁ hl₁ => by
    refine Run.intro (.own hs hl fun w₂ h₂ => ?_)
    obtain ⟨g', w', es, a, b, c⟩ := h w₂ (h₁.trans h₂.ry)
    have hl₂ := h₂.wg hl₁
    obtain ⟨⟨st, sm, hwg⟩, hch⟩ := hl₂
    have hwlt : p.Wg < w₂.heap.size := (Array.getElem?_eq_some_iff.1 hwg).1
    have hA : Apt p (more A w₂ w') Rd := fun x hx => by
      rcases hx with (hx | ⟨hx, _⟩) | hx
      · exact ha x (.inl hx)
      · exact ⟨by omega, by omega⟩
      · exact ha x (.inr hx)
    refine ⟨g', w', es, a, fun hmu => absurd (show lo.mute = true from hmu) (by rw [hm]; simp), b, c hA w' (.refl w') ⟨⟨st, sm, ?_⟩, Nat.lt_of_lt_of_le hch b.same.size⟩⟩
    unfold WgAt
    rw [b.keep _ hwlt fun h => (ha _ (.inl h)).1 rfl]
    exact hwg
  rely := fun A g w w₁ h r ha w₂ h₂ hl₂ => h ha w₂ (r.trans h₂) hl₂
section
variable {P : Program} {p : Pr} {Pst : Value → World → Prop} {main : Bool} {Rd A : Blks} {d : Nat} {lo : Lo} {hl : lo ≠ .out} {hm : lo.mute = false} {g : Goroutine} {w : World}
theorem trRun.elim (h : (trRun P p Pst main Rd d lo hl hm).T A g w) (ha : Apt p A Rd) (hw : WgLv p w) : Run P p Pst main ⟨A, Rd, d, lo⟩ g w := h ha w (.refl w) hw
theorem trRun.intro (h : Apt p A Rd → ∀ w₁, Rely A Rd w w₁ → WgLv p w₁ → Run P p Pst main ⟨A, Rd, d, lo⟩ g w₁) : (trRun P p Pst main Rd d lo hl hm).T A g w := h
end
end Go.Proofs.YtpdojmebloekgaaDoor.Nice.Co
namespace Go.Proofs.YtpdojmebloekgaaDoor.Nice.Co
open Go Go.Conc
set_option linter.unusedVariables false
set_option linter.unusedSimpArgs false
abbrev F0 : Imm := fun _ => none
abbrev pin0 : Names := fun _ => none
structure SX (C : Ctx) (A Rd : Blks) (M : Imm) (ds : List Deferred) (ρ : Names) (nb : Nat) (σ : St) (a : Act) (w : World) : Prop where
  fit : Fit A Rd F0 M w
  sr : SR0 C M (ext A Rd F0 w) pin0 ρ σ ⟨a.tmps, []⟩ w
  df : a.defers = ds
  fr : ∀ n, nb ≤ n → ρ n = none
theorem eval_df (a : Act) (x : Operand) : Act.eval ⟨a.tmps, []⟩ x = a.eval x := by cases x <;> rfl
section
variable {C : Ctx} {A Rd : Blks} {M : Imm} {ds : List Deferred} {ρ : Names} {nb : Nat} {σ : St} {a : Act} {w w₁ : World}
theorem SX.op (h : SX C A Rd M ds ρ nb σ a w) (x : Operand) : VR M ρ (opv C σ.t x) (a.eval x) := by have := opv_rel h.sr x; rwa [eval_df] at this
theorem SX.toSC (h : SX C A Rd M [] ρ σ.nx σ a w) : SC C A Rd F0 M pin0 ρ σ a w := by
  have e : (⟨a.tmps, []⟩ : Act) = a := by obtain ⟨t, d⟩ := a; have := h.df; simp only at this; subst this; rfl
  refine ⟨h.fit, ⟨?_, h.fr⟩⟩
  have := h.sr; rw [e] at this; exact this
theorem SC.toSX (h : SC C A Rd F0 M pin0 ρ σ a w) : SX C A Rd M [] ρ σ.nx σ a w := by
  have e : (⟨a.tmps, []⟩ : Act) = a := by obtain ⟨t, d⟩ := a; have := h.sr.df; simp only at this; subst this; rfl
  exact ⟨h.fit, by rw [e]; exact h.sr.toSR0, h.sr.df, h.sr.fr⟩
theorem SX.rely (h : SX C A Rd M ds ρ nb σ a w) (r : Rely A Rd w w₁) : SX C A Rd M ds ρ nb σ a w₁ :=
  ⟨fit_rely h.fit r, ⟨h.sr.tm, h.sr.sz, h.sr.df, hr_rely h.sr.hr h.fit r, h.sr.pn, h.sr.pm, h.sr.gl⟩, h.df, h.fr⟩
theorem SX.app {A' Rd' : Blks} {M' : Imm} {ρ' : Names} {nb' : Nat} {w' : World} (hs : SX C A Rd M ds ρ nb σ a w) {dst : Option Nat} (hd : (match dst with | none => true | some d => Nat.blt d C.sz) = true) {u : SV} {wr : List (Nat × Option Blk)} {u' : Value} (hf : Fit A' Rd' F0 M' w')
    (hM : M.le M') (hρ : ρ.le ρ') (hv : VR M' ρ' u u') (hh : HR M' (ext A' Rd' F0 w') ρ' (wrH σ.h wr) w') (hn : ∀ n, nb' ≤ n → ρ' n = none) : SX C A' Rd' M' ds ρ' nb' (σ.app dst u wr) (a.put dst u') w' := by
  refine ⟨hf, ⟨fun k => ?_, ?_, rfl, hh, (fun n x h => by cases h), (fun n x h => by cases h), fun g ρ => (hs.sr.gl g ρ).mono hM (Names.le_refl _)⟩, ?_, hn⟩
  · cases dst with
    | none => exact (hs.sr.tm k).mono hM hρ
    | some d =>
      have hlt : d < a.tmps.size := by have := hs.sr.sz; simp only at this; rw [this]; simpa using hd
      show VR M' ρ' (upd σ.t d u k) _
      rw [upd_eq]
      have ht := hs.sr.tm k
      split
      · next e => subst e; rw [getD_put_same hlt]; exact hv
      · next e => rw [getD_put_other e]; exact ht.mono hM hρ
  · have := hs.sr.sz
    cases dst <;> simpa [Act.put] using this
  · cases dst <;> simp [Act.put, hs.df]
end
abbrev QX (P : Program) := Exit → Tr P → List Deferred → St → Prop
def PX (C : Ctx) (M0 : Imm) (w0 : World) (Q : QX C.P) (b : Frame) (k : List Item) (cs : List Frame) : Prop :=
  ∀ e (K : Tr C.P) ds A M ρ σ a w, M0.le M → Same w0 w → SX C A K.Rd M ds ρ σ.nx σ a w → Q e K ds σ → Aft K A b k cs e a w
def WX (C : Ctx) (c : Code) (Q : QX C.P) (K : Tr C.P) (ds : List Deferred) (σ : St) : Prop :=
  ∀ A M ρ a w, SX C A K.Rd M ds ρ σ.nx σ a w → ∀ b k cs, b.kind ≠ .early → PX C M w Q b k cs → K.T A (G (b.at a (.code c :: k)) cs) w
def thenX {P : Program} (R : Tr P → List Deferred → St → Prop) (Q : QX P) : QX P
  | .normal, K, ds, σ => R K ds σ
  | e, K, ds, σ => Q e K ds σ
def inBlockX {P : Program} (id : Nat) (Q : QX P) : QX P
  | .exit id', K, ds, σ => if id' = id then Q .normal K ds σ else Q (.exit id') K ds σ
  | e, K, ds, σ => Q e K ds σ
section
variable {C : Ctx} {Q : QX C.P} {K : Tr C.P} {ds : List Deferred} {σ : St}
theorem PX.on {M0 M : Imm} {w0 w : World} {b : Frame} {k : List Item} {cs : List Frame} (h : PX C M0 w0 Q b k cs) (hM : M0.le M) (hw : Same w0 w) : PX C M w Q b k cs :=
  fun e K ds A M' ρ σ a w' h1 h2 h3 h4 => h e K ds A M' ρ σ a w' (Imm.le_trans hM h1) (hw.trans h2) h3 h4
/-- A piece within one phase. -/
theorem WX_of {c : Code} {Q0 : Exit → St → Prop} (h : W C c Q0 σ) (hq : ∀ e σ', Q0 e σ' → Q e K [] σ') : WX C c Q K [] σ := by
  intro A M ρ a w hs b k cs hb hp
  refine h K A F0 M pin0 ρ a w hs.toSC b k cs hb ?_
  intro e A' M' ρ' σ' a' w' h1 h2 h3 h4 h5
  exact hp e K [] A' M' ρ' σ' a' w' h2 h4 h3.toSX (hq _ _ h5)
theorem WX_skip (h : Q .normal K ds σ) : WX C .skip Q K ds σ := fun A M ρ a w hs b k cs hb hp => K.idle rfl (fun _ => stepG_skip) (hp .normal K ds A M ρ σ a w (Imm.le_refl _) (.refl _) hs h)
theorem WX_exit {id : Nat} (h : Q (.exit id) K ds σ) : WX C (.exit id) Q K ds σ := fun A M ρ a w hs b k cs hb hp => by
  obtain ⟨k', hk, hg⟩ := hp (.exit id) K ds A M ρ σ a w (Imm.le_refl _) (.refl _) hs h
  exact K.idle rfl (fun _ => stepG_exit hk) hg
theorem AftX.push {P : Program} {K : Tr P} {A : Blks} {b : Frame} {x : Item} {k : List Item} {cs : List Frame} {e : Exit} {a : Act} {w : World} (hx : x.plain = true) (he : e ≠ .normal) (h : Aft K A b k cs e a w) : Aft K A b (x :: k) cs e a w := Aft.push hx he h
theorem WX_seq {x y : Code} (h : WX C x (thenX (WX C y Q) Q) K ds σ) : WX C (.seq x y) Q K ds σ := by
  intro A M ρ a w hs b k cs hb hp
  refine K.idle rfl (fun _ => stepG_seq) (h A M ρ a w hs b (.code y :: k) cs hb ?_)
  intro e K' ds' A' M' ρ' σ' a' w' h1 h2 h3 h5
  cases e with
  | normal => exact h5 A' M' ρ' a' w' h3 b k cs hb (hp.on h1 h2)
  | exit id => exact Aft.push (x := .code y) rfl (by simp) (hp (.exit id) K' ds' A' M' ρ' σ' a' w' h1 h2 h3 h5)
  | goto l => exact hp (.goto l) K' ds' A' M' ρ' σ' a' w' h1 h2 h3 h5
  | ret => exact hp .ret K' ds' A' M' ρ' σ' a' w' h1 h2 h3 h5
  | panic ch => exact hp (.panic ch) K' ds' A' M' ρ' σ' a' w' h1 h2 h3 h5
  | outgrown => exact hp .outgrown K' ds' A' M' ρ' σ' a' w' h1 h2 h3 h5
theorem WX_cond {c : Operand} {x y : Code} {t : Bool} (hc : opv C σ.t c = SV.b t) (ht : t = true → WX C x Q K ds σ) (hf : t = false → WX C y Q K ds σ) : WX C (.cond c x y) Q K ds σ := by
  intro A M ρ a w hs b k cs hb hp
  have hv := hs.op c
  rw [hc] at hv
  refine K.idle rfl (fun _ => stepG_cond hv.bool) ?_
  cases t with
  | true => exact ht rfl A M ρ a w hs b k cs hb hp
  | false => exact hf rfl A M ρ a w hs b k cs hb hp
theorem WX_block {id : Nat} {c : Code} (h : WX C c (inBlockX id Q) K ds σ) : WX C (.block id c) Q K ds σ := by
  intro A M ρ a w hs b k cs hb hp
  refine K.idle rfl (fun _ => stepG_block) (h A M ρ a w hs b (.inBlock id :: k) cs hb ?_)
  intro e K' ds' A' M' ρ' σ' a' w' h1 h2 h3 h5
  cases e with
  | normal => exact K'.idle rfl (fun _ => stepG_inBlock) (hp .normal K' ds' A' M' ρ' σ' a' w' h1 h2 h3 h5)
  | exit id' =>
    simp only [inBlockX] at h5
    by_cases hid : id' = id
    · rw [if_pos hid] at h5
      exact ⟨k, by simp [exitTo, hid], hp .normal K' ds' A' M' ρ' σ' a' w' h1 h2 h3 h5⟩
    · rw [if_neg hid] at h5
      obtain ⟨k', hk, hg⟩ := hp (.exit id') K' ds' A' M' ρ' σ' a' w' h1 h2 h3 h5
      have : (id == id') = false := by simp; exact fun h => hid h.symm
      exact ⟨k', by simp [exitTo, this, hk], hg⟩
  | goto l => exact hp (.goto l) K' ds' A' M' ρ' σ' a' w' h1 h2 h3 h5
  | ret => exact hp .ret K' ds' A' M' ρ' σ' a' w' h1 h2 h3 h5
  | panic ch => exact hp (.panic ch) K' ds' A' M' ρ' σ' a' w' h1 h2 h3 h5
  | outgrown => exact hp .outgrown K' ds' A' M' ρ' σ' a' w' h1 h2 h3 h5
theorem WX_loop0 {c : Code} (I : Nat → Tr C.P → List Deferred → St → Prop) (n : Nat) (h0 : I n K ds σ)
    (round : ∀ n K ds σ, I n K ds σ → WX C c (thenX (fun K' ds' σ' => ∃ k, k < n ∧ I k K' ds' σ') Q) K ds σ) : WX C (.loop c) Q K ds σ := by
  intro A M ρ a w hs b k cs hb hp
  have key : ∀ n (K : Tr C.P) ds σ A M ρ a w, I n K ds σ → SX C A K.Rd M ds ρ σ.nx σ a w → PX C M w Q b k cs → K.T A (G (b.at a (.code c :: .inLoop c :: k)) cs) w := by
    intro n
    induction n using Nat.strongRecOn with
    | _ n ih =>
      intro K ds σ A M ρ a w hI hs hp
      refine round n K ds σ hI A M ρ a w hs b (.inLoop c :: k) cs hb ?_
      intro e K' ds' A' M' ρ' σ' a' w' h1 h2 h3 h5
      cases e with
      | normal =>
        obtain ⟨j, hj, hI'⟩ := h5
        exact K'.idle rfl (fun _ => stepG_inLoop) (ih j hj K' ds' σ' A' M' ρ' a' w' hI' h3 (hp.on h1 h2))
      | exit id => exact Aft.push (x := .inLoop c) rfl (by simp) (hp (.exit id) K' ds' A' M' ρ' σ' a' w' h1 h2 h3 h5)
      | goto l => exact hp (.goto l) K' ds' A' M' ρ' σ' a' w' h1 h2 h3 h5
      | ret => exact hp .ret K' ds' A' M' ρ' σ' a' w' h1 h2 h3 h5
      | panic ch => exact hp (.panic ch) K' ds' A' M' ρ' σ' a' w' h1 h2 h3 h5
      | outgrown => exact hp .outgrown K' ds' A' M' ρ' σ' a' w' h1 h2 h3 h5
  exact K.idle rfl (fun _ => stepG_loop) (key n K ds σ A M ρ a w h0 hs hp)
theorem WX_sub {c : Code} (π : List Nat) (tl : List (Nat × SV)) (hl : List (Option Blk)) (hsub : Sub C π σ tl hl) (h : WX C c Q K ds (stOf tl hl)) : WX C c Q K ds σ := by
  intro A M ρ a w hs b k cs hb hp
  have hr := hsub.rel hs.sr
  exact h A M _ a w ⟨hs.fit, ⟨hr.tm, hr.sz, hr.df, hr.hr, fun n x h => (by cases h), hr.pm, hr.gl⟩, hs.df, hr.fr⟩ b k cs hb hp
/-- The state told otherwise. -/
theorem WX_turn {c : Code} {σ' : St} (ht : ∀ M F pin ρ a w, SR C M F pin ρ σ a w → ∃ M' ρ', M.le M' ∧ SR C M' F pin ρ' σ' a w) (h : WX C c Q K ds σ') : WX C c Q K ds σ := by
  intro A M ρ a w hs b k cs hb hp
  obtain ⟨M', ρ', h1, h2⟩ := ht M _ pin0 ρ ⟨a.tmps, []⟩ w ⟨hs.sr, hs.fr⟩
  have hf : Fit A K.Rd F0 M' w := ⟨hs.fit.fa, fun b hb => by
    obtain ⟨o, ho⟩ := Option.ne_none_iff_exists'.1 (hs.fit.rm b hb)
    rw [h1 b o ho]; simp, hs.fit.lt⟩
  exact h A M' ρ' a w ⟨hf, h2.toSR0, hs.df, h2.fr⟩ b k cs hb (hp.on h1 (.refl _))
/-- What is so of the frame in which a region stands. -/
abbrev ZX := Imm → World → Frame → List Item → List Frame → Prop
def Up (Z : ZX) : Prop := ∀ M M' w w' b k cs, Z M w b k cs → M.le M' → Same w w' → Z M' w' b k cs
/-- From operation i of a region on. -/
def RX (C : Ctx) (ops : Array Oper) (i : Nat) (Z : ZX) (K : Tr C.P) (ds : List Deferred) (σ : St) : Prop :=
  ∀ A M ρ a w, SX C A K.Rd M ds ρ (σ.nx + 8 * i) σ a w → ∀ b k cs, b.kind ≠ .early → Z M w b k cs → K.T A (G (b.at a (.inRegion ops (List.range' i (ops.size - i)) :: k)) cs) w
def PZ (C : Ctx) (Q : QX C.P) : ZX := fun M w b k cs => PX C M w Q b k cs
theorem PZ.up : Up (PZ C Q) := fun M M' w w' b k cs h hM hw => PX.on h hM hw
theorem RX_region {id : Nat} {ops : Array Oper} (h : RX C ops 0 (PZ C Q) K ds σ) : WX C (.region id ops false) Q K ds σ := by
  intro A M ρ a w hs b k cs hb hp
  refine K.idle rfl (fun _ => stepG_region) ?_
  rw [List.range_eq_range']
  exact h A M ρ a w hs b k cs hb hp
theorem RX_end {ops : Array Oper} {n : Nat} (hn : ops.size = n) {m : Nat} (hm : σ.nx + 8 * n = m) (h : Q .normal K ds ⟨σ.t, σ.h, m⟩) : RX C ops n (PZ C Q) K ds σ := by
  intro A M ρ a w hs b k cs hb hp
  subst hm
  rw [hn, Nat.sub_self]
  exact K.idle rfl (fun _ => stepG_region_end) (hp .normal K ds A M ρ ⟨σ.t, σ.h, σ.nx + 8 * n⟩ a w (Imm.le_refl _) (.refl _) ⟨hs.fit, ⟨hs.sr.tm, hs.sr.sz, hs.sr.df, hs.sr.hr, hs.sr.pn, hs.sr.pm, hs.sr.gl⟩, hs.df, hs.fr⟩ h)
/-- Some operations within the phase. -/
theorem RX_ops {Z : ZX} (hZ : Up Z) {ops : Array Oper} : ∀ (l : List Oper) (i : Nat) (σ : St), (∀ j, j < l.length → ops[i + j]? = l[j]?) →
    wops C ops.toList i l σ none (fun σ' => RX C ops (i + l.length) Z K ds ⟨σ'.t, σ'.h, σ.nx⟩) → RX C ops i Z K ds σ := by
  intro l
  induction l with
  | nil => intro i σ _ h; exact h.2
  | cons o l ih =>
    intro i σ hl h A M ρ a w hs b k cs hb hp
    have ho : ops[i]? = some o := by have := hl 0 (by simp); simpa using this
    have hlt : i < ops.size := (Array.getElem?_eq_some_iff.1 ho).1
    have hl' : ∀ j, j < l.length → ops[(i + 1) + j]? = l[j]? := fun j hj => by
      have := hl (j + 1) (by simp; omega)
      rw [show i + 1 + j = i + (j + 1) by omega]; simpa using this
    have hrange : List.range' i (ops.size - i) = i :: List.range' (i + 1) (ops.size - (i + 1)) := by
      rw [show ops.size - i = (ops.size - (i + 1)) + 1 by omega, List.range'_succ]
    rw [hrange]
    have next : ∀ σ', σ'.nx = σ.nx → wops C ops.toList (i + 1) l σ' none (fun σ' => RX C ops (i + (o :: l).length) Z K ds ⟨σ'.t, σ'.h, σ.nx⟩) → RX C ops (i + 1) Z K ds σ' := fun σ' hn h => by
      refine ih (i + 1) σ' hl' ?_
      rw [hn]
      have e : i + (o :: l).length = i + 1 + l.length := by simp; omega
      rw [e] at h; exact h
    have on : ∀ (hd : dstOK C o = true) (hg : gOn ops.toList σ.t o) bs RS, OpOK C o (σ.nx + 8 * i) (opv C σ.t) bs RS → (∀ p, p ∈ bs → σ.h p.1 = some p.2) →
        (∀ u wr, RS u wr → wops C ops.toList (i + 1) l (σ.app o.dst u wr) none (fun σ' => RX C ops (i + (o :: l).length) Z K ds ⟨σ'.t, σ'.h, σ.nx⟩)) → K.T A (G (b.at a (.inRegion ops (i :: List.range' (i + 1) (ops.size - (i + 1))) :: k)) cs) w := by
      intro hd hg bs RS hok hbs hnext
      refine hok K A F0 M ρ a σ.h w hs.fit (fun x _ => hs.op x) hs.sr.gl hs.sr.hr hbs (fun n h1 h2 => hs.fr n h1) o.guard b ops i _ k cs ho (wanted_on hs.sr hg) hb ?_
      intro A' M' ρ' u wr u' w' h0 h1 h2 h3 h4 h5 h5f h6 h7
      refine next (σ.app o.dst u wr) rfl (hnext u wr h4) A' M' ρ' _ w' (hs.app (by unfold dstOK at hd; exact hd) h5f h1 h2 h5 h6 ?_) b k cs hb (hZ _ _ _ _ _ _ _ hp h1 h7)
      intro n hn
      have hn' : σ.nx + 8 * (i + 1) ≤ n := hn
      rw [h3 n (.inr (by omega))]
      exact hs.fr n (by omega)
    unfold wops at h
    rcases h with ⟨fp, σ', ⟨hd, hD⟩, hrest⟩ | ⟨_, hd, hg, bs, RS, hok, hbs, hnext⟩
    · rcases hD with ⟨hg, bs, u, wr, hok, hbs, _, _, rfl⟩ | ⟨hg, _, rfl⟩
      · exact on hd hg bs _ hok hbs (fun u' wr' ⟨e1, e2⟩ => by subst e1; subst e2; exact hrest)
      · refine K.idle rfl (fun _ => stepG_unwanted ho (wanted_off hs.sr hg)) ?_
        refine next (σ.app o.dst (.tup []) []) rfl hrest A M ρ _ w (hs.app (wr := []) (by unfold dstOK at hd; exact hd) hs.fit (Imm.le_refl _) (Names.le_refl _) VR.skip hs.sr.hr ?_) b k cs hb hp
        intro n hn
        have hn' : σ.nx + 8 * (i + 1) ≤ n := hn
        exact hs.fr n (by omega)
    · exact on hd hg bs RS hok hbs hnext
/-- An operation of its own kind: to be shown of the step. -/
theorem RX_step {Z : ZX} {ops : Array Oper} {i : Nat} {o : Oper} (ho : ops[i]? = some o) (h : ∀ A M ρ a w, SX C A K.Rd M ds ρ (σ.nx + 8 * i) σ a w → ∀ b k cs, b.kind ≠ .early → Z M w b k cs →
      K.T A (G (b.at a (.inRegion ops (i :: List.range' (i + 1) (ops.size - (i + 1))) :: k)) cs) w) : RX C ops i Z K ds σ := by
  intro A M ρ a w hs b k cs hb hp
  have hlt : i < ops.size := (Array.getElem?_eq_some_iff.1 ho).1
  have hrange : List.range' i (ops.size - i) = i :: List.range' (i + 1) (ops.size - (i + 1)) := by
    rw [show ops.size - i = (ops.size - (i + 1)) + 1 by omega, List.range'_succ]
  rw [hrange]
  exact h A M ρ a w hs b k cs hb hp
end
end Go.Proofs.YtpdojmebloekgaaDoor.Nice.Co
namespace Go.Proofs.YtpdojmebloekgaaDoor.Nice.Co
open Go Go.Conc
open Go.ConcR (KK WgAt stA smA mk DC0)
set_option linter.unusedVariables false
set_option linter.unusedSimpArgs false
/-- What has been made. -/
inductive Ps where
  | p0
  | p1 (Ch : Nat)
  | p2 (Wg Ch : Nat) (ty : TypeId)
def chObj : Obj := .chan 0 #[] false 0 0 false
def wgObj (ty : TypeId) : Obj := Go.ConcR.wgBlock ty 0 0
/-- A block is made. -/
structure Made (w w' : World) (o : Obj) : Prop where
  same : Same w w'
  size : w'.heap.size = w.heap.size + 1
  at_ : w'.heap[w.heap.size]? = some o
  keep : ∀ b, b < w.heap.size → w'.heap[b]? = w.heap[b]?
abbrev ContP := Ps → Blks → Goroutine → World → Prop
inductive NodeP (P : Program) (Pst : Value → World → Prop) (Rd : Blks) (K : ContP) (ps : Ps) (A : Blks) (g : Goroutine) (w : World) : Prop
  | own (hs : g.status = .running) (h : ∀ w₁, Rely A Rd w w₁ → ∃ g' w' es, stepG P true g w₁ = .go g' w' es ∧ Guar A Rd w₁ w' es ∧ K ps (more A w₁ w') g' w')
  | ret (hs : g.status = .running) (h : ∀ w₁, Rely A Rd w w₁ → ∃ v es, stepG P true g w₁ = .ended (.done v) w₁ es ∧ (∀ e, e ∈ es → EvOk A Rd e) ∧ Pst v w₁)
  | mkCh (hs : g.status = .running) (hp : ps = .p0) (h : ∀ w₁, Rely A Rd w w₁ → ∃ g' w', stepG P true g w₁ = .go g' w' #[] ∧ Made w₁ w' chObj ∧ K (.p1 w₁.heap.size) A g' w')
  | mkWg (hs : g.status = .running) (Ch : Nat) (ty : TypeId) (hp : ps = .p1 Ch) (h : ∀ w₁, Rely A Rd w w₁ → ∃ g' w', stepG P true g w₁ = .go g' w' #[] ∧ Made w₁ w' (wgObj ty) ∧ K (.p2 w₁.heap.size Ch ty) A g' w')
  | start (p : Pr) (hp : ps = .p2 p.Wg p.Ch p.ty) (h : Apt p A Rd → ∀ w₁, Rely A Rd w w₁ → WgLv p w₁ → Run P p Pst true ⟨A, Rd, 0, .spawn 0 false⟩ g w₁)
section
variable {P : Program} {Pst : Value → World → Prop} {Rd : Blks} {K K' : ContP} {ps : Ps} {A : Blks} {g : Goroutine} {w w₀ : World}
theorem NodeP.mono (h : ∀ ps A g w, K ps A g w → K' ps A g w) (n : NodeP P Pst Rd K ps A g w) : NodeP P Pst Rd K' ps A g w := by
  cases n with
  | own hs hn => exact .own hs fun w₁ h₁ => let ⟨g', w', es, a, b, c⟩ := hn w₁ h₁; ⟨g', w', es, a, b, h _ _ _ _ c⟩
  | ret hs hn => exact .ret hs hn
  | mkCh hs hp hn => exact .mkCh hs hp fun w₁ h₁ => let ⟨g', w', a, b, c⟩ := hn w₁ h₁; ⟨g', w', a, b, h _ _ _ _ c⟩
  | mkWg hs Ch ty hp hn => exact .mkWg hs Ch ty hp fun w₁ h₁ => let ⟨g', w', a, b, c⟩ := hn w₁ h₁; ⟨g', w', a, b, h _ _ _ _ c⟩
  | start p hp hn => exact .start p hp hn
theorem NodeP.rely (n : NodeP P Pst Rd K ps A g w) (r : Rely A Rd w w₀) : NodeP P Pst Rd K ps A g w₀ := by
  cases n with
  | own hs hn => exact .own hs fun w₁ h₁ => hn w₁ (r.trans h₁)
  | ret hs hn => exact .ret hs fun w₁ h₁ => hn w₁ (r.trans h₁)
  | mkCh hs hp hn => exact .mkCh hs hp fun w₁ h₁ => hn w₁ (r.trans h₁)
  | mkWg hs Ch ty hp hn => exact .mkWg hs Ch ty hp fun w₁ h₁ => hn w₁ (r.trans h₁)
  | start p hp hn => exact .start p hp fun ha w₁ h₁ => hn ha w₁ (r.trans h₁)
end
section
variable (P : Program) (Pst : Value → World → Prop) (Rd : Blks)
def PreR : Rank → ContP
  | .node α f => fun ps A g w => NodeP P Pst Rd (fun ps A g w => ∃ a, PreR (f a) ps A g w) ps A g w
def PreT : ContP := fun ps A g w => ∃ r, PreR P Pst Rd r ps A g w
end
section
variable {P : Program} {Pst : Value → World → Prop} {Rd : Blks} {ps : Ps} {A : Blks} {g : Goroutine} {w w₁ : World}
def BelowP (P : Program) (Pst : Value → World → Prop) (Rd : Blks) (r : Rank) : ContP := fun ps A g w => ∃ r', r'.Lt r ∧ PreR P Pst Rd r' ps A g w
theorem PreR.node {r : Rank} (h : PreR P Pst Rd r ps A g w) : NodeP P Pst Rd (BelowP P Pst Rd r) ps A g w := by
  cases r with
  | node α f => exact NodeP.mono (fun ps A g w ⟨a, h⟩ => ⟨f a, .mk α f a, h⟩) h
theorem PreR.rely {r : Rank} (h : PreR P Pst Rd r ps A g w) (x : Rely A Rd w w₁) : PreR P Pst Rd r ps A g w₁ := by
  cases r with
  | node α f => exact NodeP.rely h x
theorem PreT.intro (h : NodeP P Pst Rd (PreT P Pst Rd) ps A g w) : PreT P Pst Rd ps A g w := by
  let α : Type := { q : Ps × Blks × Goroutine × World // PreT P Pst Rd q.1 q.2.1 q.2.2.1 q.2.2.2 }
  refine ⟨.node α fun a => Classical.choose a.2, NodeP.mono (fun ps A g w h => ⟨⟨(ps, A, g, w), h⟩, Classical.choose_spec h⟩) h⟩
end
/-- The caller, alone, as the calculus wants it. -/
def trPre (P : Program) (Pst : Value → World → Prop) (Rd : Blks) (ps : Ps) : Tr P where
  main := true
  Rd := Rd
  T := fun A g w => PreT P Pst Rd ps A g w
  step := fun A g w hs h => PreT.intro (.own hs h)
  rely := fun A g w w₁ ⟨r, h⟩ x => ⟨r, h.rely x⟩
/-- What is so of the world, by what has been made. -/
def PsAt (A Rd : Blks) (w : World) : Ps → Prop
  | .p0 => True
  | .p1 Ch => w.heap[Ch]? = some chObj ∧ ¬ A Ch ∧ ¬ Rd Ch
  | .p2 Wg Ch ty => w.heap[Ch]? = some chObj ∧ ¬ A Ch ∧ ¬ Rd Ch ∧ w.heap[Wg]? = some (wgObj ty) ∧ ¬ A Wg ∧ ¬ Rd Wg
structure PI (A Rd : Blks) (ps : Ps) (w : World) (t : Trace) : Prop where
  a : ∀ b, A b → b < w.heap.size ∧ ¬ Rd b
  r : ∀ b, Rd b → b < w.heap.size
  s : PsAt A Rd w ps
  g : ∀ op, op ∈ t → op.g = 0
  tt : ∀ q x, touchAt t q = some x → (∃ b, blkOf x.loc = some b ∧ (A b ∨ Rd b)) ∧ x.kind ≠ .said
  d : Deaf t 0 = 0
section
variable {P : Program} {Pst : Value → World → Prop} {Rd : Blks} {ps : Ps} {A : Blks} {g g' : Goroutine} {w w' : World} {t : Trace} {sl : Option (Nat × Nat)}
theorem touch_evs {A Rd : Blks} {e : Event} (h : EvOk A Rd e) : ∀ x, (MemAct.ofEvent e).touch? = some x → (∃ b, blkOf x.loc = some b ∧ (A b ∨ Rd b)) ∧ x.kind ≠ .said := by
  intro x hx
  rcases h with ⟨ad, s, rfl, h⟩ | ⟨ad, s, rfl, h⟩ | rfl
  · cases s <;> simp [MemAct.ofEvent, MemAct.touch?] at hx <;> subst hx <;> exact ⟨⟨_, rfl, h⟩, by simp⟩
  · cases s <;> simp [MemAct.ofEvent, MemAct.touch?] at hx <;> subst hx <;> exact ⟨⟨_, rfl, .inl h⟩, by simp⟩
  · simp [noRoomEvent, MemAct.ofEvent, MemAct.touch?] at hx
theorem PI.ev (I : PI A Rd ps w t) {es : Array Event} (h : ∀ e, e ∈ es → EvOk A Rd e) (fn : FuncId) (pos : String) {A' : Blks} (hA : ∀ b, A b → A' b) :
    (∀ op, op ∈ t ++ MemOp.ofEvents 0 fn pos es → op.g = 0) ∧ (∀ q x, touchAt (t ++ MemOp.ofEvents 0 fn pos es) q = some x → (∃ b, blkOf x.loc = some b ∧ (A' b ∨ Rd b)) ∧ x.kind ≠ .said) ∧ Deaf (t ++ MemOp.ofEvents 0 fn pos es) 0 = 0 := by
  refine ⟨fun op hop => ?_, fun q x hx => ?_, by rw [Deaf_own, deaf_ev h, I.d]⟩
  · rcases Array.mem_append.1 hop with h' | h'
    · exact I.g op h'
    · exact Go.ConcR.g_of_ofEvents op h'
  · rcases touch_new hx with ⟨_, hx'⟩ | ⟨_, op, _, hou, hx'⟩
    · obtain ⟨⟨b, h1, h2⟩, h3⟩ := I.tt q x hx'
      exact ⟨⟨b, h1, h2.imp (hA b) id⟩, h3⟩
    · obtain ⟨e, he, rfl⟩ := ops_of hou
      obtain ⟨⟨b, h1, h2⟩, h3⟩ := touch_evs (h e he) x hx'
      exact ⟨⟨b, h1, h2.imp (hA b) id⟩, h3⟩
theorem PI.nil (I : PI A Rd ps w t) (fn : FuncId) (pos : String) : t ++ MemOp.ofEvents 0 fn pos #[] = t := by simp [MemOp.ofEvents]
theorem solo_set : ((#[g] : Array Goroutine).map (Go.Conc.woken P g g' w')).setIfInBounds 0 g' = #[g'] := by
  apply Array.ext_getElem?
  intro k
  cases k with
  | zero => simp
  | succ k => simp
/-- The crew begins. -/
theorem PI.begin (I : PI A Rd ps w t) {p : Pr} (hp : ps = .p2 p.Wg p.Ch p.ty) {r : Rank} (hR : RunR P p Pst r true ⟨A, Rd, 0, .spawn 0 false⟩ g w) : Inv P p Pst #[g] w (fun _ => ⟨A, Rd, 0, .spawn 0 false⟩) (fun _ => r) ⟨0, 0, 0, false⟩ t := by
  subst hp
  obtain ⟨hch, c1, c2, hwg, w1, w2⟩ := I.s
  have hne : p.Wg ≠ p.Ch := by
    intro e
    rw [e, hch] at hwg
    simp [chObj, wgObj, Go.ConcR.wgBlock] at hwg
  have hz : ∀ i, i < (#[g] : Array Goroutine).size → i = 0 := fun i hi => by simpa using hi
  have kn : ∀ q x, touchAt t q = some x → Knows t 0 q := fun q x hx => by
    obtain ⟨op, ho, _⟩ := touch_of hx
    have := knows_own ho
    rwa [I.g op (Array.mem_of_getElem? ho)] at this
  refine ⟨.spawn 0 false rfl rfl (by simp) (fun i h1 h2 => by omega) rfl, ⟨by unfold WgAt; simpa [wgObj] using hwg, 0, hch⟩, ?_, ?_, fun i x hx => ?_, fun a ha hb => ?_, fun i h1 _ h2 => ?_, fun h => ?_, fun h => by cases h⟩
  · refine ⟨fun i j b hi hj hij => by rw [hz i hi, hz j hj] at hij; exact absurd rfl hij, fun i j b hi hj h1 h2 => (I.a b h1).2 h2, fun i b hi h => ⟨(I.a b h).1, fun e => w1 (e ▸ h), fun e => c1 (e ▸ h)⟩, fun i b hi h => ⟨I.r b h, fun e => w2 (e ▸ h), fun e => c2 (e ▸ h)⟩, (Array.getElem?_eq_some_iff.1 hwg).1, (Array.getElem?_eq_some_iff.1 hch).1, hne⟩
  · refine ⟨fun q op hq => ?_, fun i l b hi hl hb q x hx hxl => ?_, fun i l b hi hl hb q x hx hxl _ => ?_, fun q x hx hb => ?_, fun q x b hx hb => ?_, fun q x hx hk => absurd hk (I.tt q x hx).2, fun said => ?_, fun i hi => ?_⟩
    · rw [I.g op (Array.mem_of_getElem? hq)]; simp
    · rw [hz i hi]; exact kn q x hx
    · rw [hz i hi]; exact kn q x hx
    · obtain ⟨⟨b, h1, h2⟩, _⟩ := I.tt q x hx
      rcases hb with hb | hb <;> rw [hb] at h1 <;> cases h1
      · exact (h2.elim w1 w2).elim
      · exact (h2.elim c1 c2).elim
    · obtain ⟨⟨b', h1, h2⟩, _⟩ := I.tt q x hx
      rw [hb] at h1; cases h1
      exact h2.elim (fun h => (I.a _ h).1) (I.r _)
    · have := noRace_append (t := #[]) (u := t) (g := 0) (Go.ConcN.noRace_nil said) (fun op hop => I.g op hop) (fun i a ha => by simp [touchAt, Trace.act?] at ha)
      simpa using this
    · rw [hz i hi]; exact I.d
  · have : i = 0 := hz i (Array.getElem?_eq_some_iff.1 hx).1
    subst this
    simp at hx; subst hx
    exact Sit.of_run hR (.inr (by simp))
  · simp at ha; subst ha
    rcases hR.node.status with h | ⟨_, h, _⟩
    · rw [h] at hb; cases hb
    · cases h
  · simp at h2; omega
  · simp at h
theorem PreR.good : ∀ {r : Rank} {ps : Ps} {A : Blks} {g : Goroutine} {w : World} {sl : Option (Nat × Nat)} {t : Trace}, PreR P Pst Rd r ps A g w → PI A Rd ps w t →
    ∃ N last o w' t', runNT P (N + 1) (crowd #[g] w sl) t = (.ended o w', t') ∧ runN P N (crowd #[g] w sl) = .next last ∧ Go.step P last = .ended o w' ∧ Go.Conc.Good P Pst last o w' t' := by
  intro r
  induction r using Rank.wf.induction with
  | _ r ih =>
  intro ps A g w sl t h I
  have hat : ∀ d, Rely A Rd w (w.at d) := fun d => ⟨⟨rfl, rfl, rfl, Nat.le_refl _⟩, fun _ _ => rfl⟩
  have pick : g.status = .running → ∃ (d : Nat) (sl' : Option (Nat × Nat)), stepT P (crowd #[g] w sl) = runT P (crowd #[g] (w.at d) sl') 0 := fun hs => by
    obtain ⟨i, g', d, sl', hi, hr, he⟩ := crowd_pick (P := P) (gs := #[g]) (w := w) (sl := sl) (fun x hx => by simp at hx; subst hx; intro tm; rw [hs]; simp) ⟨0, g, by simp, hs⟩
    have : i = 0 := by have := (Array.getElem?_eq_some_iff.1 hi).1; simpa using this
    subst this
    exact ⟨d, sl', he⟩
  have on : ∀ {ps' : Ps} {A' : Blks} {g' : Goroutine} {w' : World} {sl' : Option (Nat × Nat)} {ops : Trace}, stepT P (crowd #[g] w sl) = (.next (crowd #[g'] w' sl'), ops) → BelowP P Pst Rd r ps' A' g' w' → PI A' Rd ps' w' (t ++ ops) →
      ∃ N last o w' t', runNT P (N + 1) (crowd #[g] w sl) t = (.ended o w', t') ∧ runN P N (crowd #[g] w sl) = .next last ∧ Go.step P last = .ended o w' ∧ Go.Conc.Good P Pst last o w' t' := by
    rintro ps' A' g' w' sl' ops hs ⟨r', hlt, hR⟩ hI
    obtain ⟨n, last, o, w'', t', h1, h2, h3, h4⟩ := ih r' hlt (sl := sl') hR hI
    exact ⟨n + 1, last, o, w'', t', by rw [runNT_succ_next hs]; exact h1, by rw [runN_succ_next hs]; exact h2, h3, h4⟩
  cases h.node with
  | own hs hn =>
    obtain ⟨d, sl', he⟩ := pick hs
    obtain ⟨g', w', es, a, b, c⟩ := hn _ (hat d)
    have hrun := runT_crowd_go (P := P) (gs := #[g]) (w := w.at d) (sl := sl') (i := 0) (g := g) (by simp) (by simpa using a)
    rw [solo_set] at hrun
    obtain ⟨k1, k2, k3⟩ := I.ev b.evs g.frame.fn g.frame.place (A' := more A (w.at d) w') (fun b h => .inl h)
    refine on (he.trans hrun) c ⟨fun x hx => ?_, fun x hx => Nat.lt_of_lt_of_le (I.r x hx) b.same.size, ?_, k1, k2, k3⟩
    · rcases hx with hx | ⟨h1, h2⟩
      · exact ⟨Nat.lt_of_lt_of_le (I.a x hx).1 b.same.size, (I.a x hx).2⟩
      · exact ⟨h2, fun hr => by have := I.r x hr; have h1' : w.heap.size ≤ x := h1; omega⟩
    · have keep : ∀ x, x < w.heap.size → ¬ A x → w'.heap[x]? = w.heap[x]? := fun x h1 h2 => b.keep x h1 h2
      have nomore : ∀ x, x < w.heap.size → ¬ A x → ¬ more A (w.at d) w' x := fun x h1 h2 h => h.elim h2 fun h => by have := h.1; have h1' : w.heap.size ≤ x := this; omega
      cases ps with
      | p0 => trivial
      | p1 Ch =>
        obtain ⟨e1, e2, e3⟩ := I.s
        have hlt := (Array.getElem?_eq_some_iff.1 e1).1
        exact ⟨by rw [keep _ hlt e2]; exact e1, nomore _ hlt e2, e3⟩
      | p2 Wg Ch ty =>
        obtain ⟨e1, e2, e3, f1, f2, f3⟩ := I.s
        have hlt := (Array.getElem?_eq_some_iff.1 e1).1
        have hlt2 := (Array.getElem?_eq_some_iff.1 f1).1
        exact ⟨by rw [keep _ hlt e2]; exact e1, nomore _ hlt e2, e3, by rw [keep _ hlt2 f2]; exact f1, nomore _ hlt2 f2, f3⟩
  | ret hs hn =>
    obtain ⟨d, sl', he⟩ := pick hs
    obtain ⟨v, es, a, b, c⟩ := hn _ (hat d)
    have hrun : runT P (crowd #[g] (w.at d) sl') 0 = (.ended (.done v) (w.at d), MemOp.ofEvents 0 g.frame.fn g.frame.place es) := by
      have hsw := swapAt_of_lt (gs := #[g]) (i := 0) (by simp) { (default : Goroutine) with status := .finished }
      show runT P { world := w.at d, gs := #[g], rest := { timers := #[], alone := none, slice := sl' } } 0 = _
      unfold runT
      simp only [hsw, beq_self_eq_true, List.getElem_toArray, List.getElem_cons_zero, a, GStep.es]
    rw [hrun] at he
    obtain ⟨k1, k2, k3⟩ := I.ev b g.frame.fn g.frame.place (A' := A) (fun b h => h)
    refine ⟨0, _, .done v, w.at d, t ++ MemOp.ofEvents 0 g.frame.fn g.frame.place es, by simp [runNT, he], rfl, by simp [Go.step, he], v, rfl, c, fun said => ?_, ?_, ⟨?_, rfl⟩, ?_⟩
    · have := noRace_append (t := #[]) (u := t ++ MemOp.ofEvents 0 g.frame.fn g.frame.place es) (g := 0) (Go.ConcN.noRace_nil said) k1 (fun i a ha => by simp [touchAt, Trace.act?] at ha)
      simpa using this
    · intro i j hg hne
      obtain ⟨op, ho, hog⟩ := Option.map_eq_some_iff.1 hg
      rw [k1 op (Array.mem_of_getElem? ho)] at hog
      exact absurd hog.symm hne
    · intro x hx
      have e : (crowd #[g] w sl).gs.toList.drop 1 = [] := rfl
      rw [e] at hx; cases hx
    · intro i x hx hi
      exfalso
      have := (Array.getElem?_eq_some_iff.1 hx).1
      simp [crowd] at this
      exact hi this
  | mkCh hs hp hn =>
    subst hp
    obtain ⟨d, sl', he⟩ := pick hs
    obtain ⟨g', w', a, b, c⟩ := hn _ (hat d)
    have hrun := runT_crowd_go (P := P) (gs := #[g]) (w := w.at d) (sl := sl') (i := 0) (g := g) (by simp) (by simpa using a)
    rw [solo_set] at hrun
    refine on (he.trans hrun) c ?_
    rw [I.nil]
    have hsz : w'.heap.size = w.heap.size + 1 := b.size
    refine ⟨fun x hx => ⟨by have := (I.a x hx).1; omega, (I.a x hx).2⟩, fun x hx => by have := I.r x hx; omega, ⟨b.at_, fun h => ?_, fun h => ?_⟩, I.g, I.tt, I.d⟩
    · have := (I.a _ h).1; exact Nat.lt_irrefl _ this
    · have := I.r _ h; exact Nat.lt_irrefl _ this
  | mkWg hs Ch ty hp hn =>
    subst hp
    obtain ⟨d, sl', he⟩ := pick hs
    obtain ⟨g', w', a, b, c⟩ := hn _ (hat d)
    have hrun := runT_crowd_go (P := P) (gs := #[g]) (w := w.at d) (sl := sl') (i := 0) (g := g) (by simp) (by simpa using a)
    rw [solo_set] at hrun
    refine on (he.trans hrun) c ?_
    rw [I.nil]
    obtain ⟨e1, e2, e3⟩ := I.s
    have hlt := (Array.getElem?_eq_some_iff.1 e1).1
    have hsz : w'.heap.size = w.heap.size + 1 := b.size
    refine ⟨fun x hx => ⟨by have := (I.a x hx).1; omega, (I.a x hx).2⟩, fun x hx => by have := I.r x hx; omega, ⟨by rw [b.keep _ hlt]; exact e1, e2, e3, b.at_, fun h => ?_, fun h => ?_⟩, I.g, I.tt, I.d⟩
    · have := (I.a _ h).1; exact Nat.lt_irrefl _ this
    · have := I.r _ h; exact Nat.lt_irrefl _ this
  | start p hp hn =>
    have hI := I
    have hs := I.s
    subst hp
    obtain ⟨e1, e2, e3, f1, f2, f3⟩ := hs
    obtain ⟨r', hR⟩ := hn (fun b hb => ⟨fun e => hb.elim (fun h => f2 (e ▸ h)) fun h => f3 (e ▸ h), fun e => hb.elim (fun h => e2 (e ▸ h)) fun h => e3 (e ▸ h)⟩) w (.refl w) ⟨⟨0, 0, f1⟩, (Array.getElem?_eq_some_iff.1 e1).1⟩
    exact Inv.run _ _ _ _ _ _ _ _ rfl (hI.begin rfl hR)
end
end Go.Proofs.YtpdojmebloekgaaDoor.Nice.Co
namespace Go.Proofs.YtpdojmebloekgaaDoor.Nice.Co
open Go Go.Conc Go.RowKit Go.Conc.Lib Go.ConcR.Gen
open Go.ConcN (st_flag st_waiters)
open Go.ConcR (KK WgAt stA smA mk DC0)
set_option linter.unusedVariables false
set_option linter.unusedSimpArgs false
abbrev WK (p : Pr) (A Rd : Blks) (w0 w : World) : Prop := WgLv p w ∧ Rely A Rd w0 w
theorem rlQ {p : Pr} {A Rd : Blks} {d : Nat} {lo : Lo} {w0 w w₁ : World} (h : WK p A Rd w0 w) (r : RelyP p ⟨A, Rd, d, lo⟩ w w₁) : WK p A Rd w0 w₁ := ⟨r.wg h.1, h.2.trans r.ry⟩
theorem WK.cell0 {p : Pr} {A Rd : Blks} {w0 w : World} (h : WK p A Rd w0 w) : ∃ v, w.cell? ⟨p.Wg, 0, none⟩ = some v := Go.ConcN.Gen.WgLive.cell0 h.1.1
theorem WK.cell1 {p : Pr} {A Rd : Blks} {w0 w : World} (h : WK p A Rd w0 w) : ∃ v, w.cell? ⟨p.Wg, 1, none⟩ = some v := Go.ConcN.Gen.WgLive.cell1 h.1.1
theorem WK.only {p : Pr} {A Rd : Blks} {w0 w w' : World} (h : WK p A Rd w0 w) (hA : Apt p A Rd) (O : Only p w w') {s : Sst} (hs : Sh p s w') : WK p A Rd w0 w' := ⟨hs.lv, h.2.trans (O.relyP (Γ := ⟨A, Rd, 0, .fin⟩) hA hs.lv).ry⟩
section
variable {P : Program} {L : WgLink} {p : Pr} {Pst : Value → World → Prop} {A Rd : Blks} {w : World} {b₀ : Frame} {a₀ : Act} {ops₀ : Array Oper} {i₀ : Nat} {rest₀ : List Nat} {k₀ : List Item} {cs : List Frame}
set_option maxRecDepth 100000 in
set_option maxHeartbeats 8000000 in
theorem wg_add (H : WgLib P L) (hA : Apt p A Rd) {j : Nat} (hj : j < p.n) (hn : p.n < 2147483647) (hlv : WgLv p w)
    (hT : ∀ w', Rely A Rd w w' → WgLv p w' → Run P p Pst true ⟨A, Rd, 0, .spawn j true⟩ (G (b₀.at (a₀.put ((ops₀[i₀]?).bind (·.dst)) (.tuple #[])) (.inRegion ops₀ rest₀ :: k₀)) cs) w') :
    Run P p Pst true ⟨A, Rd, 0, .spawn j false⟩ (G ((base L.add).at ⟨#[.pointer (some ⟨p.Wg, 0, none⟩), .int .i64 1] ++ Array.replicate 115 undef, []⟩ [.code (body_add L)]) (b₀.at a₀ (.inRegion ops₀ (i₀ :: rest₀) :: k₀) :: cs)) w := by
  lib_facts
  have hF : WK p A Rd w w := ⟨hlv, .refl w⟩
  refine Run.of_goes (n := 140) (by simp) ?_
  simp only [body_add, addFn, Option.getD_some]
  walk_nrm
  u_c stepG_seq rlQ hF
  (u_in rlQ hF; rw [stepG_cond (t := true) (by first | rfl | (simp [Act.eval]; omega))]; simp only [goes_go, if_true, if_false, Bool.false_eq_true, ↓reduceIte]; refine ⟨by u_nil, ?_⟩)
  u_c stepG_seq rlQ hF
  u_c stepG_seq rlQ hF
  u_reg rlQ hF
  u_op rlQ hF
  u_op rlQ hF
  u_c stepG_region_end rlQ hF
  (u_in rlQ hF; rw [stepG_cond (t := false) (by first | rfl | (simp [Act.eval]; omega))]; simp only [goes_go, if_true, if_false, Bool.false_eq_true, ↓reduceIte]; refine ⟨by u_nil, ?_⟩)
  u_c stepG_skip rlQ hF
  u_c stepG_seq rlQ hF
  u_reg rlQ hF
  (refine Goes.stop (fun wx hx => ?_); replace hF := rlQ hF hx; clear hx)
  refine Run.mark rfl (by simp) .disable (by simp [MarkOk]) (d' := 1) rfl (fun w₁ h₁ => stepG_mark0 .disable (by simp) rfl rfl (by k_ne) rfl H.f_disable (x_disable_n L) (x_disable_b L) (x_disable_x L) (x_disable_f L)) fun w₁ h₁ => ?_
  replace hF := rlQ hF h₁
  clear h₁
  walk_nrm
  refine Run.of_goes (n := 140) (by simp) ?_
  u_c stepG_region_end rlQ hF
  u_reg rlQ hF
  u_defer rlQ hF
  u_c stepG_region_end rlQ hF
  u_c stepG_seq rlQ hF
  u_reg rlQ hF
  u_op rlQ hF
  u_c stepG_region_end rlQ hF
  u_c stepG_seq rlQ hF
  u_c stepG_seq rlQ hF
  u_reg rlQ hF
  u_bub rlQ hF
  u_c stepG_region_end rlQ hF
  (u_in rlQ hF; rw [stepG_cond (t := false) (by first | rfl | (simp [Act.eval]; omega))]; simp only [goes_go, if_true, if_false, Bool.false_eq_true, ↓reduceIte]; refine ⟨by u_nil, ?_⟩)
  u_c stepG_skip rlQ hF
  u_c stepG_seq rlQ hF
  u_reg rlQ hF
  u_op rlQ hF
  u_op rlQ hF
  u_op rlQ hF
  u_op rlQ hF
  u_op rlQ hF
  u_op rlQ hF
  u_call H.f_uAdd (nm_uAdd L) uAddFn rlQ hF
  u_c stepG_seq rlQ hF
  u_reg rlQ hF
  u_op rlQ hF
  u_c stepG_region_end rlQ hF
  u_c stepG_seq rlQ hF
  u_reg rlQ hF
  u_op rlQ hF
  u_op rlQ hF
  u_op rlQ hF
  u_op rlQ hF
  (refine Goes.stop (fun wx hx => ?_); replace hF := rlQ hF hx; clear hx)
  refine Run.intro (.sync rfl (by simp) fun w₁ h₁ s hsh hp => ?_)
  replace hF := rlQ hF h₁
  clear h₁
  have hs : s = ⟨j, 0, 0, false⟩ := by simpa [Poss] using hp
  subst hs
  have hwg := hsh.wg
  obtain ⟨hsh', O⟩ := hsh.setSt (j + 1) 0 (x := ((j + 1 : Nat) : Int) * KK) (by simp)
  have eS : IntKind.u64.wrap ((j : Int) * KK + ((0 : Nat) : Int) + 4294967296) = ((j + 1 : Nat) : Int) * KK := by rw [IntKind.wrap_u64]; simp only [KK]; omega
  refine ⟨_, _, _, .spawn j true, ⟨j + 1, 0, 0, false⟩, (stepG_add_atomic rfl rfl (by k_ne) rfl H.f_addU64 (x_addU64_n L) (x_addU64_b L) (x_addU64_x L) .u64 (x_addU64_f L) rfl rfl hwg.cellSt (hwg.thaw 0)).trans (by rw [eS]; rfl), .add hj, O, hsh', .inl ⟨rfl, rfl⟩, ?_⟩
  replace hF := hF.only hA O hsh'
  generalize w₁.setCell (stA p.Wg) (.int .u64 (((j + 1 : Nat) : Int) * KK)) = w₂ at hF ⊢
  clear hsh hsh' O hwg hp eS
  refine Run.of_goes (n := 140) (by simp) ?_
  rcases Nat.eq_zero_or_pos j with rfl | hjp
  · simp only [KK, Nat.zero_add, Int.ofNat_one, Int.one_mul, Int.cast_ofNat_Int]
    walk_nrm
    u_op rlQ hF
    u_c stepG_region_end rlQ hF
    u_c stepG_ret' rlQ hF
    u_leave1 H.f_uAdd rlQ hF
    u_op rlQ hF
    u_c stepG_region_end rlQ hF
    u_c stepG_seq rlQ hF
    u_c stepG_seq rlQ hF
    u_reg rlQ hF
    u_op rlQ hF
    u_op rlQ hF
    u_op rlQ hF
    u_op rlQ hF
    u_skip rlQ hF
    u_skip rlQ hF
    u_op rlQ hF
    u_c stepG_region_end rlQ hF
    (u_in rlQ hF; rw [stepG_cond (t := false) (by first | rfl | (simp [Act.eval]; omega))]; simp only [goes_go, if_true, if_false, Bool.false_eq_true, ↓reduceIte]; refine ⟨by u_nil, ?_⟩)
    u_c stepG_skip rlQ hF
    u_c stepG_seq rlQ hF
    u_reg rlQ hF
    u_op rlQ hF
    u_op rlQ hF
    u_op rlQ hF
    u_op rlQ hF
    u_c stepG_region_end rlQ hF
    u_c stepG_seq rlQ hF
    u_reg rlQ hF
    u_op rlQ hF
    u_op rlQ hF
    u_op rlQ hF
    u_op rlQ hF
    u_c stepG_region_end rlQ hF
    u_c stepG_seq rlQ hF
    u_c stepG_seq rlQ hF
    u_reg rlQ hF
    u_op rlQ hF
    u_op rlQ hF
    u_op rlQ hF
    u_op rlQ hF
    u_op rlQ hF
    u_op rlQ hF
    u_op rlQ hF
    u_op rlQ hF
    u_op rlQ hF
    u_op rlQ hF
    u_c stepG_region_end rlQ hF
    (u_in rlQ hF; rw [stepG_cond (t := true) (by first | rfl | (simp [Act.eval]; omega))]; simp only [goes_go, if_true, if_false, Bool.false_eq_true, ↓reduceIte]; refine ⟨by u_nil, ?_⟩)
    u_reg rlQ hF
    u_op rlQ hF
    u_op rlQ hF
    u_op rlQ hF
    u_conv H.underlying_tPU32 H.room_tU32 (WK.cell1 hF).choose_spec rlQ hF
    (refine Goes.stop (fun wx hx => ?_); replace hF := rlQ hF hx; clear hx)
    refine Run.intro (.sync rfl (by simp) fun w₁ h₁ s hsh hp => ⟨_, w₁, _, .spawn _ true, s, stepG_markAt .read (by simp) rfl rfl (by k_ne) rfl H.f_raceRead (x_raceRead_n L) (x_raceRead_b L) (x_raceRead_x L) (x_raceRead_f L) (ad := smA p.Wg) (by simp [Act.eval, smA]), .saidR, .refl _, hsh, .inl ⟨rfl, rfl⟩, ?_⟩)
    replace hF := rlQ hF h₁
    clear h₁ hsh hp
    walk_nrm
    refine Run.of_goes (n := 140) (by simp) ?_
    u_c stepG_region_end rlQ hF
    u_c stepG_seq rlQ hF
    u_c stepG_seq rlQ hF
    u_reg rlQ hF
    u_op rlQ hF
    u_op rlQ hF
    u_c stepG_region_end rlQ hF
    (u_in rlQ hF; rw [stepG_cond (t := false) (by first | rfl | (simp [Act.eval]; omega))]; simp only [goes_go, if_true, if_false, Bool.false_eq_true, ↓reduceIte]; refine ⟨by u_nil, ?_⟩)
    u_c stepG_skip rlQ hF
    u_c stepG_seq rlQ hF
    u_c stepG_seq rlQ hF
    u_reg rlQ hF
    u_op rlQ hF
    u_op rlQ hF
    u_op rlQ hF
    u_skip rlQ hF
    u_skip rlQ hF
    u_op rlQ hF
    u_op rlQ hF
    u_skip rlQ hF
    u_skip rlQ hF
    u_skip rlQ hF
    u_skip rlQ hF
    u_op rlQ hF
    u_c stepG_region_end rlQ hF
    (u_in rlQ hF; rw [stepG_cond (t := false) (by first | rfl | (simp [Act.eval]; omega))]; simp only [goes_go, if_true, if_false, Bool.false_eq_true, ↓reduceIte]; refine ⟨by u_nil, ?_⟩)
    u_c stepG_skip rlQ hF
    u_c stepG_seq rlQ hF
    u_c stepG_seq rlQ hF
    u_reg rlQ hF
    u_op rlQ hF
    u_op rlQ hF
    u_op rlQ hF
    u_skip rlQ hF
    u_skip rlQ hF
    u_op rlQ hF
    u_c stepG_region_end rlQ hF
    (u_in rlQ hF; rw [stepG_cond (t := true) (by first | rfl | (simp [Act.eval]; omega))]; simp only [goes_go, if_true, if_false, Bool.false_eq_true, ↓reduceIte]; refine ⟨by u_nil, ?_⟩)
    u_c stepG_ret' rlQ hF
    (refine Goes.stop (fun wx hx => ?_); replace hF := rlQ hF hx; clear hx)
    refine Run.mark rfl (by simp) .enable (by simp [MarkOk]) (d' := 0) rfl (fun w₁ h₁ => stepG_unwind_entry (v := .tuple #[]) (evs := #[mk .enable]) rfl H.f_enable (x_enable_n L) (x_enable_b L) (x_enable_x L) (x_enable_f L) (by simp [Extern.Race.none_]) (by simp [mk]) (by simp [mk])) fun w₁ h₁ => ?_
    replace hF := rlQ hF h₁
    clear h₁
    refine Run.of_goes (n := 140) (by simp) ?_
    u_leave0 H.f_add rlQ hF
    (refine Goes.stop (fun wx hx => ?_); replace hF := rlQ hF hx; clear hx)
    exact hT _ hF.2 hF.1
  · obtain ⟨V, hV⟩ : ∃ V : Int, V = ((j + 1 : Nat) : Int) := ⟨_, rfl⟩
    obtain ⟨S, hS⟩ : ∃ S : Int, S = V * KK := ⟨_, rfl⟩
    rw [← hV, ← hS]
    have a1 : S / 4294967296 = V := by rw [hS]; simp only [KK]; omega
    have b1 : bits .and .u64 S 2147483648 = 0 := by rw [hS, hV]; have := st_flag (j + 1) 0 (by omega) (by omega); simpa [KK] using this
    have b2 : bits .and .u64 S 2147483647 = 0 := by rw [hS, hV]; have := st_waiters (j + 1) 0 (by omega) (by omega); simpa [KK] using this
    have c1 : IntKind.i32.wrap V = V := by rw [IntKind.wrap_i32]; omega
    have hV1 : 1 < V := by omega
    have hV2 : V < 2147483648 := by omega
    have q1 : (V == 1) = false := by simp; omega
    have q2 : decide (V = 1) = false := decide_eq_false (by omega)
    have q3 : decide (V < 0) = false := decide_eq_false (by omega)
    have q4 : decide (0 < V) = true := decide_eq_true (by omega)
    have q5 : (V == 0) = false := by simp; omega
    have q6 : decide (V = 0) = false := decide_eq_false (by omega)
    clear hS hV
    walk_nrm
    u_op rlQ hF
    u_c stepG_region_end rlQ hF
    u_c stepG_ret' rlQ hF
    u_leave1 H.f_uAdd rlQ hF
    u_op rlQ hF
    u_c stepG_region_end rlQ hF
    u_c stepG_seq rlQ hF
    u_c stepG_seq rlQ hF
    u_reg rlQ hF
    u_op rlQ hF
    u_op rlQ hF
    u_op rlQ hF
    u_op rlQ hF
    u_skip rlQ hF
    u_skip rlQ hF
    u_op rlQ hF
    u_c stepG_region_end rlQ hF
    (u_in rlQ hF; rw [stepG_cond (t := false) (by first | rfl | (simp [Act.eval]; omega))]; simp only [goes_go, if_true, if_false, Bool.false_eq_true, ↓reduceIte]; refine ⟨by u_nil, ?_⟩)
    u_c stepG_skip rlQ hF
    u_c stepG_seq rlQ hF
    u_reg rlQ hF
    u_op rlQ hF
    u_op rlQ hF
    u_op rlQ hF
    u_op rlQ hF
    u_c stepG_region_end rlQ hF
    u_c stepG_seq rlQ hF
    u_reg rlQ hF
    u_op rlQ hF
    u_op rlQ hF
    u_op rlQ hF
    u_op rlQ hF
    u_c stepG_region_end rlQ hF
    u_c stepG_seq rlQ hF
    u_c stepG_seq rlQ hF
    u_reg rlQ hF
    u_op rlQ hF
    u_op rlQ hF
    u_op rlQ hF
    u_op rlQ hF
    u_op rlQ hF
    u_op rlQ hF
    u_op rlQ hF
    u_op rlQ hF
    u_op rlQ hF
    u_op rlQ hF
    u_c stepG_region_end rlQ hF
    (u_in rlQ hF; rw [stepG_cond (t := false) (by first | rfl | (simp [Act.eval]; omega))]; simp only [goes_go, if_true, if_false, Bool.false_eq_true, ↓reduceIte]; refine ⟨by u_nil, ?_⟩)
    u_c stepG_skip rlQ hF
    u_c stepG_seq rlQ hF
    u_c stepG_seq rlQ hF
    u_reg rlQ hF
    u_op rlQ hF
    u_op rlQ hF
    u_c stepG_region_end rlQ hF
    (u_in rlQ hF; rw [stepG_cond (t := false) (by first | rfl | (simp [Act.eval]; omega))]; simp only [goes_go, if_true, if_false, Bool.false_eq_true, ↓reduceIte]; refine ⟨by u_nil, ?_⟩)
    u_c stepG_skip rlQ hF
    u_c stepG_seq rlQ hF
    u_c stepG_seq rlQ hF
    u_reg rlQ hF
    u_op rlQ hF
    u_op rlQ hF
    u_op rlQ hF
    u_skip rlQ hF
    u_skip rlQ hF
    u_op rlQ hF
    u_op rlQ hF
    u_skip rlQ hF
    u_skip rlQ hF
    u_skip rlQ hF
    u_skip rlQ hF
    u_op rlQ hF
    u_c stepG_region_end rlQ hF
    (u_in rlQ hF; rw [stepG_cond (t := false) (by first | rfl | (simp [Act.eval]; omega))]; simp only [goes_go, if_true, if_false, Bool.false_eq_true, ↓reduceIte]; refine ⟨by u_nil, ?_⟩)
    u_c stepG_skip rlQ hF
    u_c stepG_seq rlQ hF
    u_c stepG_seq rlQ hF
    u_reg rlQ hF
    u_op rlQ hF
    u_op rlQ hF
    u_op rlQ hF
    u_skip rlQ hF
    u_skip rlQ hF
    u_op rlQ hF
    u_c stepG_region_end rlQ hF
    (u_in rlQ hF; rw [stepG_cond (t := true) (by first | rfl | (simp [Act.eval]; omega))]; simp only [goes_go, if_true, if_false, Bool.false_eq_true, ↓reduceIte]; refine ⟨by u_nil, ?_⟩)
    u_c stepG_ret' rlQ hF
    (refine Goes.stop (fun wx hx => ?_); replace hF := rlQ hF hx; clear hx)
    refine Run.mark rfl (by simp) .enable (by simp [MarkOk]) (d' := 0) rfl (fun w₁ h₁ => stepG_unwind_entry (v := .tuple #[]) (evs := #[mk .enable]) rfl H.f_enable (x_enable_n L) (x_enable_b L) (x_enable_x L) (x_enable_f L) (by simp [Extern.Race.none_]) (by simp [mk]) (by simp [mk])) fun w₁ h₁ => ?_
    replace hF := rlQ hF h₁
    clear h₁
    refine Run.of_goes (n := 140) (by simp) ?_
    u_leave0 H.f_add rlQ hF
    (refine Goes.stop (fun wx hx => ?_); replace hF := rlQ hF hx; clear hx)
    exact hT _ hF.2 hF.1
end
end Go.Proofs.YtpdojmebloekgaaDoor.Nice.Co
namespace Go.Proofs.YtpdojmebloekgaaDoor.Nice.Co
open Go Go.Conc Go.Conc.Lib
open Go.ConcR (KK WgAt stA smA mk DC0)
open Go.ConcR.Gen (body_add)
set_option linter.unusedVariables false
set_option linter.unusedSimpArgs false
theorem wanted_none {o : Oper} {T : Nat → Option Bool} (hg : o.guard = none) : Region.wanted o T = true := by simp [Region.wanted, hg]
theorem Made.rely {A Rd : Blks} {M : Imm} {w w' : World} {o : Obj} (m : Made w w' o) (hA : ∀ b, A b ∨ Rd b → b < w.heap.size) : Rely A Rd w w' := ⟨m.same, fun b hb => m.keep b (hA b hb)⟩
theorem made_alloc (w : World) (o : Obj) : Made w (w.alloc o) o :=
  ⟨Same.alloc w o, by simp, by show (w.heap.push o)[w.heap.size]? = some o; rw [Array.getElem?_push, if_pos rfl], fun b hb => by show (w.heap.push o)[b]? = w.heap[b]?; rw [Array.getElem?_push, if_neg (Nat.ne_of_lt hb)]⟩
section
variable {C : Ctx} {A Rd : Blks} {M : Imm} {ds : List Deferred} {ρ : Names} {nb : Nat} {σ : St} {a : Act} {w w₁ : World}
theorem SX.ltAll (h : SX C A Rd M ds ρ nb σ a w) : ∀ b, A b ∨ Rd b → b < w.heap.size := fun b hb => hb.elim (h.fit.lt b) fun hr => by
  obtain ⟨o, ho⟩ := Option.ne_none_iff_exists'.1 (h.fit.rm b hr)
  exact (Array.getElem?_eq_some_iff.1 (h.sr.hr.imm b o ho)).1
theorem SX.domM (h : SX C A Rd M ds ρ nb σ a w) {b : Nat} (hb : M b ≠ none) : A b ∨ Rd b := acc_M h.sr.hr hb
theorem SX.put (h : SX C A Rd M ds ρ nb σ a w) {dst : Option Nat} (hd : (match dst with | none => true | some d => Nat.blt d C.sz) = true) {u : SV} {u' : Value} (hv : VR M ρ u u') {nb' : Nat} (hn : nb ≤ nb') : SX C A Rd M ds ρ nb' (σ.app dst u []) (a.put dst u') w :=
  h.app (wr := []) hd h.fit (Imm.le_refl _) (Names.le_refl _) hv h.sr.hr (fun n hn' => h.fr n (by omega))
theorem SX.val (h : SX C A Rd M ds ρ nb σ a w) {x : Operand} {v : Value} (hx : opv C σ.t x = .d (.val v)) : a.eval x = v := by
  have := h.op x
  rw [hx] at this
  cases this with
  | d _ _ h => cases h with
    | val _ _ => rfl
end
section
variable {C : Ctx} {Z : ZX} {ds : List Deferred} {σ : St} {ops : Array Oper} {i : Nat} {o : Oper} {Rd : Blks} {Pst : Value → World → Prop}
theorem step_value {P : Program} {main : Bool} {b : Frame} {a : Act} {k : List Item} {cs : List Frame} {rest : List Nat} {v : Value} {w w' : World} (ho : ops[i]? = some o) (hg : o.guard = none) (hk : b.kind ≠ .early) (hr : (execOp a.eval o).run P w = .ok (.value v) w') (he : (execOp a.eval o).events P w #[] = #[]) :
    stepG P main (G (b.at a (.inRegion ops (i :: rest) :: k)) cs) w = .go (G (b.at (a.put o.dst v) (.inRegion ops rest :: k)) cs) w' #[] := by
  rw [stepG_value ho (wanted_none hg) hk hr]
  unfold listed
  rw [he, seen_none]
/-- A channel is made. -/
theorem RX_makeChan (hZ : Up Z) (ho : ops[i]? = some o) (hg : o.guard = none) {ty e : TypeId} {dir : ChanDir} {inf : TypeInfo} {x : Operand} (hop : o.op = .makeChan ty x) (hx : opv C σ.t x = SV.i 0) (ht : C.P.underlying ty = some (.chan dir e)) (hi : C.P.info? e = some inf)
    (hd : (match o.dst with | none => true | some d => Nat.blt d C.sz) = true) (h : ∀ Ch, RX C ops (i + 1) Z (trPre C.P Pst Rd (.p1 Ch)) ds (σ.app o.dst (.d (.val (.chan (some Ch)))) [])) : RX C ops i Z (trPre C.P Pst Rd .p0) ds σ := by
  refine RX_step ho fun A M ρ a w hs b k cs hb hz => ?_
  refine PreT.intro (.mkCh rfl rfl fun w₁ h₁ => ?_)
  have hs₁ := hs.rely h₁
  have hv : a.eval x = .int .i64 0 := hs₁.val hx
  have hrun : (execOp a.eval o).run C.P w₁ = .ok (.value (.chan (some w₁.heap.size))) (w₁.alloc chObj) := by
    have := run_makeChan (w := w₁) ht hi .i64 0 (by omega) (by simp)
    simp [execOp, hop, hv]
    simp only [Int.ofNat_zero, Int.natCast_zero, Int.cast_ofNat_Int] at this
    rw [this]; rfl
  have hev : (execOp a.eval o).events C.P w₁ #[] = #[] := by
    have := events_makeChan (w := w₁) ht hi .i64 0 (by omega) (by simp) #[]
    simp [execOp, hop, hv]
    simp only [Int.ofNat_zero, Int.natCast_zero, Int.cast_ofNat_Int] at this
    rw [this]
  refine ⟨_, _, step_value ho hg hb hrun hev, made_alloc _ _, ?_⟩
  have r := (made_alloc w₁ chObj).rely (A := A) (Rd := Rd) (M := M) hs₁.ltAll
  exact h w₁.heap.size A M ρ _ _ ((hs₁.rely r).put hd (.d _ _ (.val _ rfl)) (by show σ.nx + 8 * i ≤ σ.nx + 8 * (i + 1); omega)) b k cs hb (hZ _ _ _ _ _ _ _ hz (Imm.le_refl _) (h₁.same.trans r.same))
/-- The group is made: the crew may begin. -/
theorem RX_allocWg (hZ : Up Z) (ho : ops[i]? = some o) (hg : o.guard = none) {ty : TypeId} (hop : o.op = .alloc ty) (hrun : ∀ w, (Instr.alloc ty true (.tuple #[])).run C.P w = .ok (.pointer (some ⟨w.heap.size, 0, none⟩)) (w.alloc (wgObj ty))) (hev : ∀ w, (Instr.alloc ty true (.tuple #[])).events C.P w #[] = #[])
    (hd : (match o.dst with | none => true | some d => Nat.blt d C.sz) = true) {Ch : Nat} (n : Nat) (Tell : Nat → Imm → Value → Prop) {hl : Lo.spawn 0 false ≠ .out} {hm : (Lo.spawn 0 false).mute = false}
    (h : ∀ Wg, RX C ops (i + 1) Z (trRun C.P ⟨n, Wg, Ch, ty, Tell⟩ Pst true Rd 0 (.spawn 0 false) hl hm) ds (σ.app o.dst (.d (.val (.pointer (some ⟨Wg, 0, none⟩)))) [])) : RX C ops i Z (trPre C.P Pst Rd (.p1 Ch)) ds σ := by
  refine RX_step ho fun A M ρ a w hs b k cs hb hz => ?_
  refine PreT.intro (.mkWg rfl Ch ty rfl fun w₁ h₁ => ?_)
  have hs₁ := hs.rely h₁
  have hr : (execOp a.eval o).run C.P w₁ = .ok (.value (.pointer (some ⟨w₁.heap.size, 0, none⟩))) (w₁.alloc (wgObj ty)) := by
    simp [execOp, hop, hrun]
  have he : (execOp a.eval o).events C.P w₁ #[] = #[] := by simp [execOp, hop, hrun, hev]
  refine ⟨_, _, step_value ho hg hb hr he, made_alloc _ _, ?_⟩
  have r := (made_alloc w₁ (wgObj ty)).rely (A := A) (Rd := Rd) (M := M) hs₁.ltAll
  have hT := h w₁.heap.size A M ρ _ _ ((hs₁.rely r).put hd (u := .d (.val (.pointer (some ⟨w₁.heap.size, 0, none⟩)))) (.d _ _ (.val _ rfl)) (by show σ.nx + 8 * i ≤ σ.nx + 8 * (i + 1); omega)) b k cs hb (hZ _ _ _ _ _ _ _ hz (Imm.le_refl _) (h₁.same.trans r.same))
  exact PreT.intro (.start ⟨n, w₁.heap.size, Ch, ty, Tell⟩ rfl fun ha w₂ h₂ hl₂ => hT ha w₂ h₂ hl₂)
/-- All that is told may be read, and nothing else. -/
structure Shared (Rd : Blks) (M : Imm) (w : World) : Prop where
  dom : ∀ b, Rd b ↔ M b ≠ none
  imm : Holds M w
/-- A value that hangs on no block of one's own. -/
def SV.dataB : SV → Bool
  | .d _ => true
  | .vp .. => true
  | .any => true
  | _ => false
theorem VR.other {M : Imm} {ρ ρ' : Names} {x : SV} {u : Value} (h : VR M ρ x u) (hx : SV.dataB x = true) : VR M ρ' x u := by
  cases h with
  | any => exact .any _
  | d _ _ h => exact .d _ _ h
  | vp k len f i c b o cur T fz g hb hg hr => exact .vp k len f i c b o cur T fz g hb hg hr
  | _ => simp [SV.dataB] at hx
theorem VR.pair {M : Imm} {ρ : Names} {x y : SV} {u v : Value} (h : VR M ρ x u) (k : VR M ρ y v) : VR M ρ (.tup [x, y]) (.tuple #[u, v]) := by
  refine .tup [x, y] #[u, v] (fun i => if i = 0 then u else v) rfl (fun i hi => ?_) fun i z hz => ?_
  · match i, hi with
    | 0, _ => rfl
    | 1, _ => rfl
  · match i, hz with
    | 0, hz => simp at hz; subst hz; exact h
    | 1, hz => simp at hz; subst hz; exact k
    | i + 2, hz => simp at hz
section
variable {p : Pr} {hl : Lo.fin ≠ .out} {hm : Lo.fin.mute = false}
theorem ext_same {A Rd A' Rd' : Blks} {w : World} (h : ∀ b, (A' b ∨ Rd' b) ↔ (A b ∨ Rd b)) : ext A' Rd' F0 w = ext A Rd F0 w := by
  funext b
  by_cases e : A b ∨ Rd b
  · rw [ext_in e, ext_in ((h b).2 e)]
  · rw [ext_out e, ext_out (fun x => e ((h b).1 x))]
/-- What has been laid still is for reading from now on. -/
theorem SX.give {C : Ctx} {A Rd : Blks} {M : Imm} {ds : List Deferred} {ρ : Names} {nb : Nat} {σ : St} {a : Act} {w : World} (h : SX C A Rd M ds ρ nb σ a w) : SX C (fun b => A b ∧ ¬ (A b ∧ M b ≠ none)) (fun b => Rd b ∨ (A b ∧ M b ≠ none)) M ds ρ nb σ a w := by
  have e : ∀ b, ((A b ∧ ¬ (A b ∧ M b ≠ none)) ∨ (Rd b ∨ (A b ∧ M b ≠ none))) ↔ (A b ∨ Rd b) := fun b => by
    by_cases hm : M b ≠ none
    · constructor
      · rintro (⟨x, _⟩ | x | ⟨x, _⟩)
        · exact .inl x
        · exact .inr x
        · exact .inl x
      · rintro (x | x)
        · exact .inr (.inr ⟨x, hm⟩)
        · exact .inr (.inl x)
    · constructor
      · rintro (⟨x, _⟩ | x | ⟨x, _⟩)
        · exact .inl x
        · exact .inr x
        · exact .inl x
      · rintro (x | x)
        · exact .inl ⟨x, fun y => hm y.2⟩
        · exact .inr (.inl x)
  refine ⟨⟨fun b hb => absurd rfl hb, fun b hb => hb.elim (h.fit.rm b) (·.2), fun b hb => h.fit.lt b hb.1⟩, ⟨h.sr.tm, h.sr.sz, h.sr.df, ?_, h.sr.pn, h.sr.pm, h.sr.gl⟩, h.df, h.fr⟩
  rw [ext_same e]
  exact h.sr.hr
theorem SX.shared {C : Ctx} {A Rd : Blks} {M : Imm} {ds : List Deferred} {ρ : Names} {nb : Nat} {σ : St} {a : Act} {w : World} (h : SX C A Rd M ds ρ nb σ a w) : Shared (fun b => Rd b ∨ (A b ∧ M b ≠ none)) M w :=
  ⟨fun b => ⟨fun hb => hb.elim (h.fit.rm b) (·.2), fun hb => (h.domM hb).elim (fun x => .inr ⟨x, hb⟩) .inl⟩, h.sr.hr.imm⟩
end
def goCall (f : FuncId) (vs : Array Value) : Deferred := { target := .fn (.func f) vs, args := #[] }
theorem step_go {P : Program} {main : Bool} {b : Frame} {a : Act} {k : List Item} {cs : List Frame} {rest : List Nat} {w : World} {x : Operand} (ho : ops[i]? = some o) (hg : o.guard = none) (hk : b.kind ≠ .early) (hop : o.op = .go { callee := .value x, args := #[], argTypes := #[] }) {f : FuncId} {vs : Array Value} (hq : a.eval x = .func (.func f) #[] vs) :
    stepG P main (G (b.at a (.inRegion ops (i :: rest) :: k)) cs) w = .spawn (G (b.at (a.put o.dst undef) (.inRegion ops rest :: k)) cs) (born P (goCall f vs)) w #[] := by
  have hr : (execOp a.eval o).run P w = .ok (.spawn (goCall f vs)) w := by simp [execOp, hop, resolve, hq, Deferred.ofValue, goCall]
  have he : (execOp a.eval o).events P w #[] = #[] := by simp [execOp, hop, resolve, hq, Deferred.ofValue]
  rw [stepG_spawn ho (wanted_none hg) hk hr rfl]
  unfold listed
  rw [he, seen_none]
section
variable {p : Pr} {caps : List SV} {f : FuncId} {x : Operand}
/-- What a child is handed. -/
def Child (P : Program) (Gv : Nat → SV) (p : Pr) (Pst : Value → World → Prop) (f : FuncId) (caps : List SV) (lo : Lo) : Prop :=
  ∀ Rd M w (vs : Array Value), (∀ g ρ, VR M ρ (Gv g) (.pointer (some ⟨g, 0, none⟩))) → Shared Rd M w → Apt p no Rd → WgLv p w → vs.size = caps.length → (∀ (j : Nat) (y : SV), caps[j]? = some y → ∃ u, vs[j]? = some u ∧ ∀ ρ, VR M ρ y u) → Run P p Pst false ⟨no, Rd, 0, lo⟩ (born P (goCall f vs)) w
theorem Apt.give {A Rd : Blks} {M : Imm} (h : Apt p A Rd) : Apt p (fun b => A b ∧ ¬ (A b ∧ M b ≠ none)) (fun b => Rd b ∨ (A b ∧ M b ≠ none)) ∧ Apt p no (fun b => Rd b ∨ (A b ∧ M b ≠ none)) := by
  constructor
  · intro b hb
    rcases hb with ⟨x, _⟩ | x | ⟨x, _⟩
    · exact h b (.inl x)
    · exact h b (.inr x)
    · exact h b (.inl x)
  · intro b hb
    rcases hb with x | x | ⟨x, _⟩
    · exact x.elim
    · exact h b (.inr x)
    · exact h b (.inl x)
/-- A worker is started. -/
theorem RX_spawnW (hZ : Up Z) (ho : ops[i]? = some o) (hg : o.guard = none) (hop : o.op = .go { callee := .value x, args := #[], argTypes := #[] }) (hdst : o.dst = none) (hx : opv C σ.t x = .fn f caps) (hcaps : ∀ y, y ∈ caps → SV.dataB y = true) {j : Nat}
    {hl : Lo.spawn j true ≠ .out} {hm : (Lo.spawn j true).mute = false} {hl' : Lo.spawn (j + 1) false ≠ .out} {hm' : (Lo.spawn (j + 1) false).mute = false}
    (hch : Child C.P C.G p Pst f caps (.wk j)) (h : ∀ Rd', RX C ops (i + 1) Z (trRun C.P p Pst true Rd' 0 (.spawn (j + 1) false) hl' hm') ds σ) : RX C ops i Z (trRun C.P p Pst true Rd 0 (.spawn j true) hl hm) ds σ := by
  refine RX_step ho fun A M ρ a w hs b k cs hb hz => trRun.intro fun hA w₁ h₁ hlv => ?_
  refine Run.intro (.spawnW rfl rfl j rfl rfl fun w₂ h₂ => ?_)
  have hs₂ := (hs.rely h₁).rely h₂.ry
  have hlv₂ := h₂.wg hlv
  obtain ⟨vs, hq, hvs, hvr⟩ := fn_case (by have := hs₂.op x; rw [hx] at this; exact this)
  refine ⟨fun b => A b ∧ M b ≠ none, _, _, fun b hb => hb.1, step_go ho hg hb hop hq, ?_, hch _ M w₂ vs hs₂.sr.gl hs₂.shared (Apt.give hA).2 hlv₂ hvs fun j y hy => ?_⟩
  · rw [hdst]
    refine h (fun b => Rd b ∨ (A b ∧ M b ≠ none)) (fun b => A b ∧ ¬ (A b ∧ M b ≠ none)) M ρ a w₂ ?_ b k cs hb (hZ _ _ _ _ _ _ _ hz (Imm.le_refl _) (h₁.same.trans h₂.ry.same)) (Apt.give hA).1 w₂ (.refl _) hlv₂
    have g := hs₂.give
    exact ⟨g.fit, g.sr, g.df, fun n hn => g.fr n (by have hn' : σ.nx + 8 * (i + 1) ≤ n := hn; omega)⟩
  · obtain ⟨u, h1, h2⟩ := hvr j y hy
    exact ⟨u, h1, fun ρ' => VR.other h2 (hcaps y (List.mem_of_getElem? hy))⟩
/-- The closer is started. -/
theorem RX_spawnC (hZ : Up Z) (ho : ops[i]? = some o) (hg : o.guard = none) (hop : o.op = .go { callee := .value x, args := #[], argTypes := #[] }) (hdst : o.dst = none) (hx : opv C σ.t x = .fn f caps) (hcaps : ∀ y, y ∈ caps → SV.dataB y = true)
    {hl : Lo.spawn p.n false ≠ .out} {hm : (Lo.spawn p.n false).mute = false} {hl' : Lo.recv [] ≠ .out} {hm' : (Lo.recv []).mute = false}
    (hch : Child C.P C.G p Pst f caps (.cw p.n)) (h : ∀ Rd', RX C ops (i + 1) Z (trRun C.P p Pst true Rd' 0 (.recv []) hl' hm') ds σ) : RX C ops i Z (trRun C.P p Pst true Rd 0 (.spawn p.n false) hl hm) ds σ := by
  refine RX_step ho fun A M ρ a w hs b k cs hb hz => trRun.intro fun hA w₁ h₁ hlv => ?_
  refine Run.intro (.spawnC rfl rfl rfl rfl fun w₂ h₂ => ?_)
  have hs₂ := (hs.rely h₁).rely h₂.ry
  have hlv₂ := h₂.wg hlv
  obtain ⟨vs, hq, hvs, hvr⟩ := fn_case (by have := hs₂.op x; rw [hx] at this; exact this)
  refine ⟨fun b => A b ∧ M b ≠ none, _, _, fun b hb => hb.1, step_go ho hg hb hop hq, ?_, hch _ M w₂ vs hs₂.sr.gl hs₂.shared (Apt.give hA).2 hlv₂ hvs fun j y hy => ?_⟩
  · rw [hdst]
    refine h (fun b => Rd b ∨ (A b ∧ M b ≠ none)) (fun b => A b ∧ ¬ (A b ∧ M b ≠ none)) M ρ a w₂ ?_ b k cs hb (hZ _ _ _ _ _ _ _ hz (Imm.le_refl _) (h₁.same.trans h₂.ry.same)) (Apt.give hA).1 w₂ (.refl _) hlv₂
    have g := hs₂.give
    exact ⟨g.fit, g.sr, g.df, fun n hn => g.fr n (by have hn' : σ.nx + 8 * (i + 1) ≤ n := hn; omega)⟩
  · obtain ⟨u, h1, h2⟩ := hvr j y hy
    exact ⟨u, h1, fun ρ' => VR.other h2 (hcaps y (List.mem_of_getElem? hy))⟩
/-- crew.Add(1). -/
theorem RX_add (hZ : Up Z) {L : WgLink} (H : WgLib C.P L) (ho : ops[i]? = some o) (hg : o.guard = none) {y : Operand} {tys : Array TypeId} (hop : o.op = .call { callee := .value (.func L.add), args := #[x, y], argTypes := tys }) (hx : opv C σ.t x = .d (.val (.pointer (some ⟨p.Wg, 0, none⟩)))) (hy : opv C σ.t y = SV.i 1)
    (hd : (match o.dst with | none => true | some d => Nat.blt d C.sz) = true) {j : Nat} (hj : j < p.n) (hn : p.n < 2147483647)
    {hl : Lo.spawn j false ≠ .out} {hm : (Lo.spawn j false).mute = false} {hl' : Lo.spawn j true ≠ .out} {hm' : (Lo.spawn j true).mute = false}
    (h : RX C ops (i + 1) Z (trRun C.P p Pst true Rd 0 (.spawn j true) hl' hm') ds (σ.app o.dst .any [])) : RX C ops i Z (trRun C.P p Pst true Rd 0 (.spawn j false) hl hm) ds σ := by
  refine RX_step ho fun A M ρ a w hs b k cs hb hz => trRun.intro fun hA w₁ h₁ hlv => ?_
  refine Run.intro (.own rfl (by simp) fun w₂ h₂ => ?_)
  have hs₂ := (hs.rely h₁).rely h₂.ry
  have hlv₂ := h₂.wg hlv
  have e1 := hs₂.val hx
  have e2 := hs₂.val (v := .int .i64 1) hy
  have hb' : (addFn L).body.isNone = false := rfl
  have hrun : (execOp a.eval o).run C.P w₂ = .ok (.enter L.add #[.pointer (some ⟨p.Wg, 0, none⟩), .int .i64 1]) w₂ := by
    rw [run_call_body hop H.f_add (Go.ConcR.Gen.nm_add L) hb']
    simp [e1, e2]
  have hev : (execOp a.eval o).events C.P w₂ #[] = #[] := events_call_body hop H.f_add (Go.ConcR.Gen.nm_add L) hb' _
  refine ⟨_, w₂, #[], (stepG_enter ho (wanted_none hg) hb hrun).trans (by unfold listed; rw [hev, seen_none]), fun _ => rfl, Guar.idle _, ?_⟩
  rw [more_self, enter_at _ H.f_add (c := body_add L) rfl]
  refine wg_add H hA hj hn hlv₂ fun w' r hlv' => ?_
  have hT := h A M ρ (a.put o.dst (.tuple #[])) w' ((hs₂.rely r).put hd (.any _) (by show σ.nx + 8 * i ≤ σ.nx + 8 * (i + 1); omega)) b k cs hb (hZ _ _ _ _ _ _ _ hz (Imm.le_refl _) (h₁.same.trans (h₂.ry.same.trans r.same)))
  have e : (ops[i]?).bind (·.dst) = o.dst := by rw [ho]; rfl
  rw [e]
  exact hT hA w' (.refl _) hlv'
/-- More is told. -/
theorem hr_learn {A Rd : Blks} {M M' : Imm} {ρ : Names} {h : Heap} {w : World} (H : HR M (ext A Rd F0 w) ρ h w) (f : Fit A Rd F0 M w) (hh : Holds M' w) (hd : ∀ b, M' b ≠ none → ¬ A b) :
    ∃ M2, M.le M2 ∧ M'.le M2 ∧ (∀ b, M2 b ≠ none → M b ≠ none ∨ M' b ≠ none) ∧ HR M2 (ext A (fun b => Rd b ∨ M' b ≠ none) F0 w) ρ h w := by
  let M2 : Imm := fun b => (M b).or (M' b)
  have m2 : ∀ b, M2 b = (M b).or (M' b) := fun b => rfl
  have le1 : M.le M2 := fun b o hb => by rw [m2, hb]; rfl
  have or2 : ∀ b, M2 b ≠ none → M b ≠ none ∨ M' b ≠ none := fun b hb => by
    rw [m2] at hb
    cases e : M b with
    | some o => exact .inl (by simp)
    | none => rw [e] at hb; exact .inr (by simpa using hb)
  have le2 : M'.le M2 := fun b o hb => by
    rw [m2]
    cases e : M b with
    | none => simpa using hb
    | some o' =>
      have h1 := H.imm b o' e
      have h2 := hh b o hb
      rw [h1] at h2
      simpa using h2
  have none2 : ∀ b, M b = none → A b → M2 b = none := fun b hb ha => by
    rw [m2, hb]
    cases e : M' b with
    | none => rfl
    | some o => exact absurd ha (hd b (by rw [e]; simp))
  have exA : ∀ b, A b → ext A (fun b => Rd b ∨ M' b ≠ none) F0 w b = none := fun b hb => by rw [ext_in (.inl hb)]
  refine ⟨M2, le1, le2, or2, ⟨fun b o hb => ?_, fun b o hb => ?_, fun b o hb => ?_, fun n blk hn => ?_, H.sep, ?_⟩⟩
  · rw [m2] at hb
    cases e : M b with
    | some o' => rw [e] at hb; have hb' : o' = o := by simpa using hb
                 subst hb'; exact H.imm b o' e
    | none => rw [e] at hb; exact hh b o (by simpa using hb)
  · by_cases e : A b ∨ (Rd b ∨ M' b ≠ none)
    · rw [ext_in e] at hb; cases hb
    · rw [ext_out e] at hb; exact hb
  · by_cases e : A b ∨ (Rd b ∨ M' b ≠ none)
    · rw [ext_in e] at hb; cases hb
    · refine Classical.byContradiction fun hc => ?_
      rcases or2 b hc with h1 | h1
      · exact e ((acc_M H h1).imp id .inl)
      · exact e (.inr (.inr h1))
  · obtain ⟨x, hx, hr⟩ := H.live n blk hn
    refine ⟨x, hx, ?_⟩
    rcases hr with hr | ⟨h0, h1, h2, o, h3, h4⟩
    · exact .inl hr
    · have ha := own_A f h1 h2 h3
      exact .inr ⟨h0, none2 _ h1 ha, exA _ ha, o, h3, h4.mono le1 (Names.le_refl _)⟩
  · refine H.famKeep (fun _ _ _ h => h) (Names.le_refl _) le1 (Nat.le_refl _) (fun n S es hn b hb g1 g2 => ?_) (fun _ _ _ _ _ _ _ _ _ _ => rfl) (fun _ _ _ m y _ a b _ => .inl ⟨a, b⟩)
    obtain ⟨_, _, _, k1, _⟩ := H.fam n S es hn
    obtain ⟨_, _, k3⟩ := k1 b hb
    have ha := own_A f g1 g2 (Array.getElem?_eq_getElem k3)
    exact ⟨none2 _ g1 ha, exA _ ha⟩
theorem served_G {b : Frame} {a : Act} {k : List Item} {cs : List Frame} {rest : List Nat} {v : Value} (ho : ops[i]? = some o) : Go.Conc.served (G (b.at a (.inRegion ops (i :: rest) :: k)) cs) v = G (b.at (a.put o.dst v) (.inRegion ops rest :: k)) cs := by
  have : (b.at a (.inRegion ops (i :: rest) :: k)).finish v = b.at (a.put o.dst v) (.inRegion ops rest :: k) := by rw [Frame.finish_at, ho]; rfl
  simp only [Go.Conc.served, G, this]
/-- The receive. -/
theorem RX_recv (hZ : Up Z) (ho : ops[i]? = some o) (hg : o.guard = none) {ty e : TypeId} {dir : ChanDir} {z : Value} (hop : o.op = .recv ty x true) (hx : opv C σ.t x = .d (.val (.chan (some p.Ch)))) (hu : ∀ w, (underlying ty).run C.P w = .ok (.chan dir e) w) (hue : ∀ w, (underlying ty).events C.P w #[] = #[]) (hz0 : ∀ w, (zeroValue e).run C.P w = .ok z w) (hz1 : ∀ w, (zeroValue e).events C.P w #[] = #[])
    (hd : (match o.dst with | none => true | some d => Nat.blt d C.sz) = true) (T : Nat → SV) (hT : ∀ k M v, p.Tell k M v → ∀ ρ, VR M ρ (T k) v) {J : List Nat}
    {hl : Lo.recv J ≠ .out} {hm : (Lo.recv J).mute = false} {hl1 : ∀ k, Lo.recv (k :: J) ≠ .out} {hm1 : ∀ k, (Lo.recv (k :: J)).mute = false} {hl2 : Lo.fin ≠ .out} {hm2 : Lo.fin.mute = false}
    (hgot : ∀ k Rd', k < p.n → k ∉ J → RX C ops (i + 1) Z (trRun C.P p Pst true Rd' 0 (.recv (k :: J)) (hl1 k) (hm1 k)) ds (σ.app o.dst (.tup [T k, SV.b true]) []))
    (hend : (∀ k, k < p.n → k ∈ J) → RX C ops (i + 1) Z (trRun C.P p Pst true Rd 0 .fin hl2 hm2) ds (σ.app o.dst (.tup [.any, SV.b false]) [])) : RX C ops i Z (trRun C.P p Pst true Rd 0 (.recv J) hl hm) ds σ := by
  refine RX_step ho fun A M ρ a w hs b k cs hb hzz => trRun.intro fun hA w₁ h₁ hlv => ?_
  have hs₁ := hs.rely h₁
  have e1 := hs₁.val hx
  refine Run.intro (.recv rfl J (G (b.at a (.inRegion ops (i :: List.range' (i + 1) (ops.size - (i + 1))) :: k)) cs) z ⟨rfl, rfl, rfl, .refl _, fun w₂ h₂ => ?_, fun k' M' v w₂ h₂ hkn hkJ ht hh hap => ?_, fun w₂ h₂ hall => ?_⟩)
  · have hrun : (execOp a.eval o).run C.P w₂ = .ok (.comm #[rcase p.Ch z] true (.recv true)) w₂ := by
      simp [execOp, hop, hu, hz0, e1, rcase]
    have hev : (execOp a.eval o).events C.P w₂ #[] = #[] := by
      simp [execOp, hop, hu, hue, hz0, hz1, e1]
    rw [stepG_comm ho (wanted_none hg) hb hrun]
    unfold listed
    rw [hev, seen_none]
  · have hs₂ := hs₁.rely h₂.ry
    have hlv₂ := h₂.wg hlv
    rw [served_G ho]
    obtain ⟨M2, l1, l2, l3, H2⟩ := hr_learn hs₂.sr.hr hs₂.fit hh (fun b hb => (hap b hb).1)
    have hA2 : Apt p A (fun b => Rd b ∨ M' b ≠ none) := fun b hb => by
      rcases hb with hb | hb | hb
      · exact hA b (.inl hb)
      · exact hA b (.inr hb)
      · exact (hap b hb).2
    refine hgot k' (fun b => Rd b ∨ M' b ≠ none) hkn hkJ A M2 ρ _ w₂ ?_ b k cs hb (hZ _ _ _ _ _ _ _ hzz l1 (h₁.same.trans h₂.ry.same)) hA2 w₂ (.refl _) hlv₂
    refine hs₂.app (wr := []) hd ⟨fun b hb => absurd rfl hb, fun b hb => ?_, hs₂.fit.lt⟩ l1 (Names.le_refl _) ?_ H2 (fun n hn => hs₂.fr n (by have hn' : σ.nx + 8 * (i + 1) ≤ n := hn; omega))
    · rcases hb with hb | hb
      · obtain ⟨o', ho'⟩ := Option.ne_none_iff_exists'.1 (hs₂.fit.rm b hb)
        rw [l1 b o' ho']; simp
      · obtain ⟨o', ho'⟩ := Option.ne_none_iff_exists'.1 hb
        rw [l2 b o' ho']; simp
    · exact VR.pair ((hT k' M' v ht ρ).mono l2 (Names.le_refl _)) (.d _ _ (.val _ rfl))
  · have hs₂ := hs₁.rely h₂.ry
    have hlv₂ := h₂.wg hlv
    rw [served_G ho]
    refine hend hall A M ρ _ w₂ ?_ b k cs hb (hZ _ _ _ _ _ _ _ hzz (Imm.le_refl _) (h₁.same.trans h₂.ry.same)) hA w₂ (.refl _) hlv₂
    exact hs₂.put hd (VR.pair (.any _) (.d _ _ (.val _ rfl))) (by show σ.nx + 8 * i ≤ σ.nx + 8 * (i + 1); omega)
end
end
end Go.Proofs.YtpdojmebloekgaaDoor.Nice.Co
namespace Go.Proofs.YtpdojmebloekgaaDoor.Nice.Co
open Go Go.Conc Go.RowKit Go.Conc.Lib Go.ConcR.Gen
open Go.ConcN (st_flag st_waiters)
open Go.ConcR (KK WgAt stA smA mk DC0)
set_option linter.unusedVariables false
set_option linter.unusedSimpArgs false
noncomputable def body_done (L : WgLink) : Code := (doneFn L).body.getD .skip
section
variable {P : Program} {L : WgLink} {p : Pr} {Pst : Value → World → Prop} {w : World} {c : Frame} {cs : List Frame} {qt : Nat}
set_option maxRecDepth 100000 in
set_option maxHeartbeats 8000000 in
theorem wg_done (H : WgLib P L) (hn : p.n < 2147483647) (hcm : c.mode = .returning) (hT : QuitsD P qt 0 (G c cs)) (hlv : WgLv p w) :
    Run P p Pst false ⟨no, no, 0, .told⟩ (G ((baseD L.done).at ⟨#[.pointer (some ⟨p.Wg, 0, none⟩), undef, undef, undef], []⟩ [.code (body_done L)]) (c :: cs)) w := by
  lib_facts
  have hA : Apt p no no := fun b h => h.elim False.elim False.elim
  have hF : WK p no no w w := ⟨hlv, .refl w⟩
  refine Run.of_goes (n := 140) (by simp) ?_
  simp only [body_done, doneFn, Option.getD_some]
  u_reg rlQ hF
  u_op rlQ hF
  u_in rlQ hF
  refine goes_call rfl rfl (by k_ne) rfl H.f_add (nm_add L) rfl ⟨by u_nil, ?_⟩
  walk_nrmf addFn
  u_c stepG_seq rlQ hF
  (u_in rlQ hF; rw [stepG_cond (t := true) (by first | rfl | (simp [Act.eval]; omega))]; simp only [goes_go, if_true, if_false, Bool.false_eq_true, ↓reduceIte]; refine ⟨by u_nil, ?_⟩)
  u_c stepG_seq rlQ hF
  u_c stepG_seq rlQ hF
  u_reg rlQ hF
  u_op rlQ hF
  u_op rlQ hF
  u_c stepG_region_end rlQ hF
  (u_in rlQ hF; rw [stepG_cond (t := true) (by first | rfl | (simp [Act.eval]; omega))]; simp only [goes_go, if_true, if_false, Bool.false_eq_true, ↓reduceIte]; refine ⟨by u_nil, ?_⟩)
  u_reg rlQ hF
  u_op rlQ hF
  u_conv H.underlying_tWgP H.room_tWg (WK.cell0 hF).choose_spec rlQ hF
  (refine Goes.stop (fun wx hx => ?_); replace hF := rlQ hF hx; clear hx)
  refine Run.mark rfl (by simp) (.releaseMerge _) (by simp [MarkOk]) (d' := 0) rfl (fun w₁ h₁ => stepG_markAt .releaseMerge (by simp) rfl rfl (by k_ne) rfl H.f_relMerge (x_relMerge_n L) (x_relMerge_b L) (x_relMerge_x L) (x_relMerge_f L) (by simp [Act.eval] <;> rfl)) fun w₁ h₁ => ?_
  replace hF := rlQ hF h₁
  clear h₁
  walk_nrm
  refine Run.of_goes (n := 140) (by simp) ?_
  u_c stepG_region_end rlQ hF
  u_c stepG_seq rlQ hF
  u_reg rlQ hF
  (refine Goes.stop (fun wx hx => ?_); replace hF := rlQ hF hx; clear hx)
  refine Run.mark rfl (by simp) .disable (by simp [MarkOk]) (d' := 1) rfl (fun w₁ h₁ => stepG_mark0 .disable (by simp) rfl rfl (by k_ne) rfl H.f_disable (x_disable_n L) (x_disable_b L) (x_disable_x L) (x_disable_f L)) fun w₁ h₁ => ?_
  replace hF := rlQ hF h₁
  clear h₁
  walk_nrm
  refine Run.of_goes (n := 140) (by simp) ?_
  u_c stepG_region_end rlQ hF
  u_reg rlQ hF
  u_defer rlQ hF
  u_c stepG_region_end rlQ hF
  u_c stepG_seq rlQ hF
  u_reg rlQ hF
  u_op rlQ hF
  u_c stepG_region_end rlQ hF
  u_c stepG_seq rlQ hF
  u_c stepG_seq rlQ hF
  u_reg rlQ hF
  u_bub rlQ hF
  u_c stepG_region_end rlQ hF
  (u_in rlQ hF; rw [stepG_cond (t := false) (by first | rfl | (simp [Act.eval]; omega))]; simp only [goes_go, if_true, if_false, Bool.false_eq_true, ↓reduceIte]; refine ⟨by u_nil, ?_⟩)
  u_c stepG_skip rlQ hF
  u_c stepG_seq rlQ hF
  u_reg rlQ hF
  u_op rlQ hF
  u_op rlQ hF
  u_op rlQ hF
  u_op rlQ hF
  u_op rlQ hF
  u_op rlQ hF
  u_call H.f_uAdd (nm_uAdd L) uAddFn rlQ hF
  u_c stepG_seq rlQ hF
  u_reg rlQ hF
  u_op rlQ hF
  u_c stepG_region_end rlQ hF
  u_c stepG_seq rlQ hF
  u_reg rlQ hF
  u_op rlQ hF
  u_op rlQ hF
  u_op rlQ hF
  u_op rlQ hF
  (refine Goes.stop (fun wx hx => ?_); replace hF := rlQ hF hx; clear hx)
  refine Run.intro (.sync rfl (by simp) fun w₁ h₁ s hsh hp => ?_)
  replace hF := rlQ hF h₁
  clear h₁
  obtain ⟨u, wt, sm, cl⟩ := s
  obtain ⟨hp1, hp2, hp3, hp4, hp5⟩ : 1 ≤ u ∧ u ≤ p.n ∧ wt ≤ 1 ∧ sm = 0 ∧ cl = false := hp
  subst hp4 hp5
  obtain ⟨v, rfl⟩ : ∃ v, u = v + 1 := ⟨u - 1, by omega⟩
  have hwg := hsh.wg
  obtain ⟨hsh', O⟩ := hsh.setSt v wt (x := (v : Int) * KK + wt) rfl
  have eS : IntKind.u64.wrap (((v + 1 : Nat) : Int) * KK + (wt : Int) + 18446744069414584320) = (v : Int) * KK + wt := by rw [IntKind.wrap_u64]; simp only [KK]; omega
  refine ⟨_, _, _, _, ⟨v, wt, 0, false⟩, (stepG_add_atomic rfl rfl (by k_ne) rfl H.f_addU64 (x_addU64_n L) (x_addU64_b L) (x_addU64_x L) .u64 (x_addU64_f L) rfl rfl hwg.cellSt (hwg.thaw 0)).trans (by rw [eS]; rfl), .done (by decide), O, hsh', .inl ⟨rfl, rfl⟩, ?_⟩
  replace hF := hF.only hA O hsh'
  generalize w₁.setCell (stA p.Wg) (.int .u64 ((v : Int) * KK + wt)) = w₂ at hF ⊢
  clear hsh hsh' O hwg eS
  rcases Nat.eq_zero_or_pos v with rfl | hvp
  · rcases Nat.eq_zero_or_pos wt with rfl | hwt
    · rw [if_neg (by simp)]
      simp only [KK, Int.ofNat_zero, Int.zero_mul, Int.zero_add, Int.cast_ofNat_Int, Int.natCast_zero]
      refine Run.of_quits (q := qt + 92) (d := 1) ?_
      walk_nrm
      (refine QuitsD.value (.int .u64 0) rfl rfl (by k_ne) (fun _ => by go_simp; try (first | omega | (w_num; omega) | w_num | decide)) (fun _ => by simp [go_sem, *]) ?_; walk_nrm)
      q_c stepG_region_end
      q_c stepG_ret'
      q_leave1 H.f_uAdd
      (refine QuitsD.value (.int .u64 0) rfl rfl (by k_ne) (fun _ => by go_simp; try (first | omega | (w_num; omega) | w_num | decide)) (fun _ => by simp [go_sem, *]) ?_; walk_nrm)
      q_c stepG_region_end
      q_c stepG_seq
      q_c stepG_seq
      q_reg
      (refine QuitsD.value (.int .u64 0) rfl rfl (by k_ne) (fun _ => by go_simp; try (first | omega | (w_num; omega) | w_num | decide)) (fun _ => by simp [go_sem, *]) ?_; walk_nrm)
      (refine QuitsD.value (.int .u64 0) rfl rfl (by k_ne) (fun _ => by go_simp; try (first | omega | (w_num; omega) | w_num | decide)) (fun _ => by simp [go_sem, *]) ?_; walk_nrm)
      (refine QuitsD.value (.bool false) rfl rfl (by k_ne) (fun _ => by go_simp; try (first | omega | (w_num; omega) | w_num | decide)) (fun _ => by simp [go_sem, *]) ?_; walk_nrm)
      (refine QuitsD.value (.bool false) rfl rfl (by k_ne) (fun _ => by go_simp; try (first | omega | (w_num; omega) | w_num | decide)) (fun _ => by simp [go_sem, *]) ?_; walk_nrm)
      q_skip
      q_skip
      (refine QuitsD.value (.bool false) rfl rfl (by k_ne) (fun _ => by go_simp; try (first | omega | (w_num; omega) | w_num | decide)) (fun _ => by simp [go_sem, *]) ?_; walk_nrm)
      q_c stepG_region_end
      q_cond false
      q_c stepG_skip
      q_c stepG_seq
      q_reg
      (refine QuitsD.value (.int .u64 0) rfl rfl (by k_ne) (fun _ => by go_simp; try (first | omega | (w_num; omega) | w_num | decide)) (fun _ => by simp [go_sem, *]) ?_; walk_nrm)
      (refine QuitsD.value (.int .u64 0) rfl rfl (by k_ne) (fun _ => by go_simp; try (first | omega | (w_num; omega) | w_num | decide)) (fun _ => by simp [go_sem, *]) ?_; walk_nrm)
      (refine QuitsD.value (.int .i32 0) rfl rfl (by k_ne) (fun _ => by go_simp; try (first | omega | (w_num; omega) | w_num | decide)) (fun _ => by simp [go_sem, *]) ?_; walk_nrm)
      (refine QuitsD.value (.int .i32 0) rfl rfl (by k_ne) (fun _ => by go_simp; try (first | omega | (w_num; omega) | w_num | decide)) (fun _ => by simp [go_sem, *]) ?_; walk_nrm)
      q_c stepG_region_end
      q_c stepG_seq
      q_reg
      (refine QuitsD.value (.int .u64 0) rfl rfl (by k_ne) (fun _ => by go_simp; try (first | omega | (w_num; omega) | w_num | decide)) (fun _ => by simp [go_sem, *]) ?_; walk_nrm)
      (refine QuitsD.value (.int .u64 0) rfl rfl (by k_ne) (fun _ => by go_simp; try (first | omega | (w_num; omega) | w_num | decide)) (fun _ => by simp [go_sem, *]) ?_; walk_nrm)
      (refine QuitsD.value (.int .u32 0) rfl rfl (by k_ne) (fun _ => by go_simp; try (first | omega | (w_num; omega) | w_num | decide)) (fun _ => by simp [go_sem, *]) ?_; walk_nrm)
      (refine QuitsD.value (.int .u32 0) rfl rfl (by k_ne) (fun _ => by go_simp; try (first | omega | (w_num; omega) | w_num | decide)) (fun _ => by simp [go_sem, *]) ?_; walk_nrm)
      q_c stepG_region_end
      q_c stepG_seq
      q_c stepG_seq
      q_reg
      (refine QuitsD.value (.bool true) rfl rfl (by k_ne) (fun _ => by go_simp; try (first | omega | (w_num; omega) | w_num | decide)) (fun _ => by simp [go_sem, *]) ?_; walk_nrm)
      (refine QuitsD.value (.int .i64 (-1)) rfl rfl (by k_ne) (fun _ => by go_simp; try (first | omega | (w_num; omega) | w_num | decide)) (fun _ => by simp [go_sem, *]) ?_; walk_nrm)
      (refine QuitsD.value (.bool false) rfl rfl (by k_ne) (fun _ => by go_simp; try (first | omega | (w_num; omega) | w_num | decide)) (fun _ => by simp [go_sem, *]) ?_; walk_nrm)
      (refine QuitsD.value (.bool false) rfl rfl (by k_ne) (fun _ => by go_simp; try (first | omega | (w_num; omega) | w_num | decide)) (fun _ => by simp [go_sem, *]) ?_; walk_nrm)
      (refine QuitsD.value (.bool false) rfl rfl (by k_ne) (fun _ => by go_simp; try (first | omega | (w_num; omega) | w_num | decide)) (fun _ => by simp [go_sem, *]) ?_; walk_nrm)
      q_skip
      q_skip
      q_skip
      q_skip
      (refine QuitsD.value (.bool false) rfl rfl (by k_ne) (fun _ => by go_simp; try (first | omega | (w_num; omega) | w_num | decide)) (fun _ => by simp [go_sem, *]) ?_; walk_nrm)
      q_c stepG_region_end
      q_cond false
      q_c stepG_skip
      q_c stepG_seq
      q_c stepG_seq
      q_reg
      (refine QuitsD.value (.int .i32 0) rfl rfl (by k_ne) (fun _ => by go_simp; try (first | omega | (w_num; omega) | w_num | decide)) (fun _ => by simp [go_sem, *]) ?_; walk_nrm)
      (refine QuitsD.value (.bool false) rfl rfl (by k_ne) (fun _ => by go_simp; try (first | omega | (w_num; omega) | w_num | decide)) (fun _ => by simp [go_sem, *]) ?_; walk_nrm)
      q_c stepG_region_end
      q_cond false
      q_c stepG_skip
      q_c stepG_seq
      q_c stepG_seq
      q_reg
      (refine QuitsD.value (.int .u32 0) rfl rfl (by k_ne) (fun _ => by go_simp; try (first | omega | (w_num; omega) | w_num | decide)) (fun _ => by simp [go_sem, *]) ?_; walk_nrm)
      (refine QuitsD.value (.bool false) rfl rfl (by k_ne) (fun _ => by go_simp; try (first | omega | (w_num; omega) | w_num | decide)) (fun _ => by simp [go_sem, *]) ?_; walk_nrm)
      (refine QuitsD.value (.bool false) rfl rfl (by k_ne) (fun _ => by go_simp; try (first | omega | (w_num; omega) | w_num | decide)) (fun _ => by simp [go_sem, *]) ?_; walk_nrm)
      q_skip
      q_skip
      (refine QuitsD.value (.bool false) rfl rfl (by k_ne) (fun _ => by go_simp; try (first | omega | (w_num; omega) | w_num | decide)) (fun _ => by simp [go_sem, *]) ?_; walk_nrm)
      (refine QuitsD.value (.bool false) rfl rfl (by k_ne) (fun _ => by go_simp; try (first | omega | (w_num; omega) | w_num | decide)) (fun _ => by simp [go_sem, *]) ?_; walk_nrm)
      q_skip
      q_skip
      q_skip
      q_skip
      (refine QuitsD.value (.bool false) rfl rfl (by k_ne) (fun _ => by go_simp; try (first | omega | (w_num; omega) | w_num | decide)) (fun _ => by simp [go_sem, *]) ?_; walk_nrm)
      q_c stepG_region_end
      q_cond false
      q_c stepG_skip
      q_c stepG_seq
      q_c stepG_seq
      q_reg
      (refine QuitsD.value (.int .i32 0) rfl rfl (by k_ne) (fun _ => by go_simp; try (first | omega | (w_num; omega) | w_num | decide)) (fun _ => by simp [go_sem, *]) ?_; walk_nrm)
      (refine QuitsD.value (.bool false) rfl rfl (by k_ne) (fun _ => by go_simp; try (first | omega | (w_num; omega) | w_num | decide)) (fun _ => by simp [go_sem, *]) ?_; walk_nrm)
      (refine QuitsD.value (.bool false) rfl rfl (by k_ne) (fun _ => by go_simp; try (first | omega | (w_num; omega) | w_num | decide)) (fun _ => by simp [go_sem, *]) ?_; walk_nrm)
      (refine QuitsD.value (.int .u32 0) rfl rfl (by k_ne) (fun _ => by go_simp; try (first | omega | (w_num; omega) | w_num | decide)) (fun _ => by simp [go_sem, *]) ?_; walk_nrm)
      (refine QuitsD.value (.bool true) rfl rfl (by k_ne) (fun _ => by go_simp; try (first | omega | (w_num; omega) | w_num | decide)) (fun _ => by simp [go_sem, *]) ?_; walk_nrm)
      (refine QuitsD.value (.bool true) rfl rfl (by k_ne) (fun _ => by go_simp; try (first | omega | (w_num; omega) | w_num | decide)) (fun _ => by simp [go_sem, *]) ?_; walk_nrm)
      q_c stepG_region_end
      q_cond true
      q_c stepG_ret'
      q_enable
      q_leave0 H.f_add
      q_c stepG_region_end
      q_c stepG_end
      exact QuitsD.leaveD rfl rfl H.f_done rfl hcm hT
    · obtain rfl : wt = 1 := by omega
      rw [if_pos (by simp)]
      simp only [KK, Int.ofNat_zero, Int.zero_mul, Int.zero_add, Int.cast_ofNat_Int, Int.natCast_zero, Int.natCast_one]
      change Run P p Pst false ⟨no, no, 1, .l1⟩ _ _
      refine Run.of_goes (n := 140) (by simp) ?_
      walk_nrm
      u_op rlQ hF
      u_c stepG_region_end rlQ hF
      u_c stepG_ret' rlQ hF
      u_leave1 H.f_uAdd rlQ hF
      u_op rlQ hF
      u_c stepG_region_end rlQ hF
      u_c stepG_seq rlQ hF
      u_c stepG_seq rlQ hF
      u_reg rlQ hF
      u_op rlQ hF
      u_op rlQ hF
      u_op rlQ hF
      u_op rlQ hF
      u_skip rlQ hF
      u_skip rlQ hF
      u_op rlQ hF
      u_c stepG_region_end rlQ hF
      (u_in rlQ hF; rw [stepG_cond (t := false) (by first | rfl | (simp [Act.eval]; omega))]; simp only [goes_go, if_true, if_false, Bool.false_eq_true, ↓reduceIte]; refine ⟨by u_nil, ?_⟩)
      u_c stepG_skip rlQ hF
      u_c stepG_seq rlQ hF
      u_reg rlQ hF
      u_op rlQ hF
      u_op rlQ hF
      u_op rlQ hF
      u_op rlQ hF
      u_c stepG_region_end rlQ hF
      u_c stepG_seq rlQ hF
      u_reg rlQ hF
      u_op rlQ hF
      u_op rlQ hF
      u_op rlQ hF
      u_op rlQ hF
      u_c stepG_region_end rlQ hF
      u_c stepG_seq rlQ hF
      u_c stepG_seq rlQ hF
      u_reg rlQ hF
      u_op rlQ hF
      u_op rlQ hF
      u_op rlQ hF
      u_op rlQ hF
      u_op rlQ hF
      u_skip rlQ hF
      u_skip rlQ hF
      u_skip rlQ hF
      u_skip rlQ hF
      u_op rlQ hF
      u_c stepG_region_end rlQ hF
      (u_in rlQ hF; rw [stepG_cond (t := false) (by first | rfl | (simp [Act.eval]; omega))]; simp only [goes_go, if_true, if_false, Bool.false_eq_true, ↓reduceIte]; refine ⟨by u_nil, ?_⟩)
      u_c stepG_skip rlQ hF
      u_c stepG_seq rlQ hF
      u_c stepG_seq rlQ hF
      u_reg rlQ hF
      u_op rlQ hF
      u_op rlQ hF
      u_c stepG_region_end rlQ hF
      (u_in rlQ hF; rw [stepG_cond (t := false) (by first | rfl | (simp [Act.eval]; omega))]; simp only [goes_go, if_true, if_false, Bool.false_eq_true, ↓reduceIte]; refine ⟨by u_nil, ?_⟩)
      u_c stepG_skip rlQ hF
      u_c stepG_seq rlQ hF
      u_c stepG_seq rlQ hF
      u_reg rlQ hF
      u_op rlQ hF
      u_op rlQ hF
      u_op rlQ hF
      u_op rlQ hF
      u_op rlQ hF
      u_op rlQ hF
      u_op rlQ hF
      u_skip rlQ hF
      u_skip rlQ hF
      u_skip rlQ hF
      u_skip rlQ hF
      u_op rlQ hF
      u_c stepG_region_end rlQ hF
      (u_in rlQ hF; rw [stepG_cond (t := false) (by first | rfl | (simp [Act.eval]; omega))]; simp only [goes_go, if_true, if_false, Bool.false_eq_true, ↓reduceIte]; refine ⟨by u_nil, ?_⟩)
      u_c stepG_skip rlQ hF
      u_c stepG_seq rlQ hF
      u_c stepG_seq rlQ hF
      u_reg rlQ hF
      u_op rlQ hF
      u_op rlQ hF
      u_op rlQ hF
      u_op rlQ hF
      u_op rlQ hF
      u_op rlQ hF
      u_c stepG_region_end rlQ hF
      (u_in rlQ hF; rw [stepG_cond (t := false) (by first | rfl | (simp [Act.eval]; omega))]; simp only [goes_go, if_true, if_false, Bool.false_eq_true, ↓reduceIte]; refine ⟨by u_nil, ?_⟩)
      u_c stepG_skip rlQ hF
      u_c stepG_seq rlQ hF
      u_c stepG_seq rlQ hF
      u_reg rlQ hF
      u_op rlQ hF
      u_op rlQ hF
      u_op rlQ hF
      u_call H.f_uLoad (nm_uLoad L) uLoadFn rlQ hF
      u_c stepG_seq rlQ hF
      u_reg rlQ hF
      u_op rlQ hF
      u_c stepG_region_end rlQ hF
      u_c stepG_seq rlQ hF
      u_reg rlQ hF
      u_op rlQ hF
      u_op rlQ hF
      u_op rlQ hF
      (refine Goes.stop (fun wx hx => ?_); replace hF := rlQ hF hx; clear hx)
      refine Run.intro (.sync rfl (by simp) fun w₁ h₁ s hsh hp => ?_)
      replace hF := rlQ hF h₁
      clear h₁
      have hs : s = ⟨0, 1, 0, false⟩ := by simpa [Poss] using hp
      subst hs
      have hwg := hsh.wg
      simp only [KK, Int.ofNat_zero, Int.zero_mul, Int.zero_add, Int.ofNat_one, Int.cast_ofNat_Int, Int.natCast_zero, Int.natCast_one] at hwg
      refine ⟨_, w₁, _, .l2, ⟨0, 1, 0, false⟩, stepG_load_atomic (v := 1) rfl rfl (by k_ne) rfl H.f_loadU64 (x_loadU64_n L) (x_loadU64_b L) (x_loadU64_x L) .u64 (x_loadU64_f L) rfl hwg.cellSt, .ld1 (by decide), .refl _, hsh, .inl ⟨rfl, rfl⟩, ?_⟩
      clear hsh hp hwg
      change Run P p Pst false ⟨no, no, 1, .l2⟩ _ _
      walk_nrm
      refine Run.of_goes (n := 140) (by simp) ?_
      u_op rlQ hF
      u_c stepG_region_end rlQ hF
      u_c stepG_ret' rlQ hF
      u_leave1 H.f_uLoad rlQ hF
      u_op rlQ hF
      u_op rlQ hF
      u_c stepG_region_end rlQ hF
      (u_in rlQ hF; rw [stepG_cond (t := false) (by first | rfl | (simp [Act.eval]; omega))]; simp only [goes_go, if_true, if_false, Bool.false_eq_true, ↓reduceIte]; refine ⟨by u_nil, ?_⟩)
      u_c stepG_skip rlQ hF
      u_c stepG_seq rlQ hF
      u_reg rlQ hF
      u_op rlQ hF
      u_op rlQ hF
      u_op rlQ hF
      u_call H.f_uStore (nm_uStore L) uStoreFn rlQ hF
      u_reg rlQ hF
      u_op rlQ hF
      u_op rlQ hF
      u_op rlQ hF
      u_op rlQ hF
      (refine Goes.stop (fun wx hx => ?_); replace hF := rlQ hF hx; clear hx)
      refine Run.intro (.sync rfl (by simp) fun w₁ h₁ s hsh hp => ?_)
      replace hF := rlQ hF h₁
      clear h₁
      have hs : s = ⟨0, 1, 0, false⟩ := by simpa [Poss] using hp
      subst hs
      have hwg := hsh.wg
      obtain ⟨hsh', O⟩ := hsh.setSt 0 0 (x := 0) (by simp)
      refine ⟨_, _, _, .l3, ⟨0, 0, 0, false⟩, stepG_store_atomic rfl rfl (by k_ne) rfl H.f_storeU64 (x_storeU64_n L) (x_storeU64_b L) (x_storeU64_x L) (x_storeU64_f L) rfl rfl hwg.cellSt (hwg.thaw 0), .st2 (by decide), O, hsh', .inl ⟨rfl, rfl⟩, ?_⟩
      replace hF := hF.only hA O hsh'
      generalize w₁.setCell (stA p.Wg) (.int .u64 0) = w₂ at hF ⊢
      clear hsh hsh' O hwg hp
      change Run P p Pst false ⟨no, no, 1, .l3⟩ _ _
      refine Run.of_goes (n := 140) (by simp) ?_
      walk_nrm
      u_c stepG_region_end rlQ hF
      u_c stepG_end rlQ hF
      u_leave0 H.f_uStore rlQ hF
      u_c stepG_region_end rlQ hF
      u_c stepG_seq rlQ hF
      u_c stepG_seq rlQ hF
      u_reg rlQ hF
      u_op rlQ hF
      u_c stepG_region_end rlQ hF
      (u_in rlQ hF; rw [stepG_cond (t := false) (by first | rfl | (simp [Act.eval]; omega))]; simp only [goes_go, if_true, if_false, Bool.false_eq_true, ↓reduceIte]; refine ⟨by u_nil, ?_⟩)
      u_c stepG_skip rlQ hF
      u_c stepG_block rlQ hF
      u_c stepG_loop rlQ hF
      u_c stepG_seq rlQ hF
      u_c stepG_seq rlQ hF
      u_reg rlQ hF
      u_op rlQ hF
      u_op rlQ hF
      u_c stepG_region_end rlQ hF
      (u_in rlQ hF; rw [stepG_cond (t := true) (by first | rfl | (simp [Act.eval]; omega))]; simp only [goes_go, if_true, if_false, Bool.false_eq_true, ↓reduceIte]; refine ⟨by u_nil, ?_⟩)
      u_c stepG_skip rlQ hF
      u_c stepG_seq rlQ hF
      u_c stepG_block rlQ hF
      u_reg rlQ hF
      u_op rlQ hF
      u_op rlQ hF
      u_op rlQ hF
      (refine Goes.stop (fun wx hx => ?_); replace hF := rlQ hF hx; clear hx)
      refine Run.intro (.sync rfl (by simp) fun w₁ h₁ s hsh hp => ?_)
      replace hF := rlQ hF h₁
      clear h₁
      have hs : s = ⟨0, 0, 0, false⟩ := by simpa [Poss] using hp
      subst hs
      have hwg := hsh.wg
      obtain ⟨hsh', O⟩ := hsh.setSm 1 (x := IntKind.u32.wrap (((0 : Nat) : Int) + 1)) (by decide)
      refine ⟨_, _, _, .out, ⟨0, 0, 1, false⟩, stepG_semrelease rfl rfl (by k_ne) rfl H.f_semrelease (x_semrelease_n L) (x_semrelease_b L) (x_semrelease_x L) (x_semrelease_f L) (by simp [Act.eval, smA] <;> rfl) hwg.cellSm (hwg.thaw 1), .rel (by decide), O, hsh', .inr ?_, ?_⟩
      · simp [mayWake, G, Frame.at, Frame.eval, Act.eval, H.f_semrelease, semreleaseFn]; done
      refine Run.of_quits (q := qt + 22) (d := 1) ?_
      walk_nrm
      q_c stepG_region_end
      q_c stepG_inBlock
      q_reg
      (refine QuitsD.value (.int .u32 1) rfl rfl (by k_ne) (fun _ => by go_simp; try (first | omega | (w_num; omega) | w_num | decide)) (fun _ => by simp [go_sem, *]) ?_; walk_nrm)
      (refine QuitsD.value (.int .u32 0) rfl rfl (by k_ne) (fun _ => by go_simp; try (first | omega | (w_num; omega) | w_num | decide)) (fun _ => by simp [go_sem, *]) ?_; walk_nrm)
      (refine QuitsD.value (.int .u32 0) rfl rfl (by k_ne) (fun _ => by go_simp; try (first | omega | (w_num; omega) | w_num | decide)) (fun _ => by simp [go_sem, *]) ?_; walk_nrm)
      q_c stepG_region_end
      q_c stepG_inLoop
      q_c stepG_seq
      q_c stepG_seq
      q_reg
      (refine QuitsD.value (.int .u32 0) rfl rfl (by k_ne) (fun _ => by go_simp; try (first | omega | (w_num; omega) | w_num | decide)) (fun _ => by simp [go_sem, *]) ?_; walk_nrm)
      (refine QuitsD.value (.bool false) rfl rfl (by k_ne) (fun _ => by go_simp; try (first | omega | (w_num; omega) | w_num | decide)) (fun _ => by simp [go_sem, *]) ?_; walk_nrm)
      q_c stepG_region_end
      q_cond false
      q_exit
      q_c stepG_end
      q_enable
      q_leave0 H.f_add
      q_c stepG_region_end
      q_c stepG_end
      exact QuitsD.leaveD rfl rfl H.f_done rfl hcm hT
  · rw [if_neg (by omega)]
    rcases Nat.eq_zero_or_pos wt with rfl | hwt
    · refine Run.of_quits (q := qt + 92) (d := 1) ?_
      obtain ⟨V, hV⟩ : ∃ V : Int, V = ((v : Nat) : Int) := ⟨_, rfl⟩
      obtain ⟨S, hS⟩ : ∃ S : Int, S = V * KK + (0 : Nat) := ⟨_, rfl⟩
      rw [← hV, ← hS]
      have a1 : S / 4294967296 = V := by rw [hS]; simp only [KK]; omega
      have b1 : bits .and .u64 S 2147483648 = 0 := by rw [hS, hV]; have := st_flag v 0 (by omega) (by omega); simpa [KK] using this
      have b2 : bits .and .u64 S 2147483647 = 0 := by rw [hS, hV]; have := st_waiters v 0 (by omega) (by omega); simpa [KK] using this
      have c1 : IntKind.i32.wrap V = V := by rw [IntKind.wrap_i32]; omega
      have hV1 : 0 < V := by omega
      have hV2 : V < 2147483648 := by omega
      have q3 : decide (V < 0) = false := decide_eq_false (by omega)
      have q4 : decide (0 < V) = true := decide_eq_true (by omega)
      have q5 : (V == 0) = false := by simp; omega
      have q6 : decide (V = 0) = false := decide_eq_false (by omega)
      clear hS hV
      walk_nrm
      (refine QuitsD.value (.int .u64 S) rfl rfl (by k_ne) (fun _ => by go_simp; try (first | omega | (w_num; omega) | w_num | decide)) (fun _ => by simp [go_sem, *]) ?_; walk_nrm)
      q_c stepG_region_end
      q_c stepG_ret'
      q_leave1 H.f_uAdd
      (refine QuitsD.value (.int .u64 S) rfl rfl (by k_ne) (fun _ => by go_simp; try (first | omega | (w_num; omega) | w_num | decide)) (fun _ => by simp [go_sem, *]) ?_; walk_nrm)
      q_c stepG_region_end
      q_c stepG_seq
      q_c stepG_seq
      q_reg
      (refine QuitsD.value (.int .u64 S) rfl rfl (by k_ne) (fun _ => by go_simp; try (first | omega | (w_num; omega) | w_num | decide)) (fun _ => by simp [go_sem, *]) ?_; walk_nrm)
      (refine QuitsD.value (.int .u64 0) rfl rfl (by k_ne) (fun _ => by go_simp; try (first | omega | (w_num; omega) | w_num | decide)) (fun _ => by simp [go_sem, *]) ?_; walk_nrm)
      (refine QuitsD.value (.bool false) rfl rfl (by k_ne) (fun _ => by go_simp; try (first | omega | (w_num; omega) | w_num | decide)) (fun _ => by simp [go_sem, *]) ?_; walk_nrm)
      (refine QuitsD.value (.bool false) rfl rfl (by k_ne) (fun _ => by go_simp; try (first | omega | (w_num; omega) | w_num | decide)) (fun _ => by simp [go_sem, *]) ?_; walk_nrm)
      q_skip
      q_skip
      (refine QuitsD.value (.bool false) rfl rfl (by k_ne) (fun _ => by go_simp; try (first | omega | (w_num; omega) | w_num | decide)) (fun _ => by simp [go_sem, *]) ?_; walk_nrm)
      q_c stepG_region_end
      q_cond false
      q_c stepG_skip
      q_c stepG_seq
      q_reg
      (refine QuitsD.value (.int .u64 S) rfl rfl (by k_ne) (fun _ => by go_simp; try (first | omega | (w_num; omega) | w_num | decide)) (fun _ => by simp [go_sem, *]) ?_; walk_nrm)
      (refine QuitsD.value (.int .u64 V) rfl rfl (by k_ne) (fun _ => by go_simp; try (first | omega | (w_num; omega) | w_num | decide)) (fun _ => by simp [go_sem, *]) ?_; walk_nrm)
      (refine QuitsD.value (.int .i32 V) rfl rfl (by k_ne) (fun _ => by go_simp; try (first | omega | (w_num; omega) | w_num | decide)) (fun _ => by simp [go_sem, *]) ?_; walk_nrm)
      (refine QuitsD.value (.int .i32 V) rfl rfl (by k_ne) (fun _ => by go_simp; try (first | omega | (w_num; omega) | w_num | decide)) (fun _ => by simp [go_sem, *]) ?_; walk_nrm)
      q_c stepG_region_end
      q_c stepG_seq
      q_reg
      (refine QuitsD.value (.int .u64 S) rfl rfl (by k_ne) (fun _ => by go_simp; try (first | omega | (w_num; omega) | w_num | decide)) (fun _ => by simp [go_sem, *]) ?_; walk_nrm)
      (refine QuitsD.value (.int .u64 0) rfl rfl (by k_ne) (fun _ => by go_simp; try (first | omega | (w_num; omega) | w_num | decide)) (fun _ => by simp [go_sem, *]) ?_; walk_nrm)
      (refine QuitsD.value (.int .u32 0) rfl rfl (by k_ne) (fun _ => by go_simp; try (first | omega | (w_num; omega) | w_num | decide)) (fun _ => by simp [go_sem, *]) ?_; walk_nrm)
      (refine QuitsD.value (.int .u32 0) rfl rfl (by k_ne) (fun _ => by go_simp; try (first | omega | (w_num; omega) | w_num | decide)) (fun _ => by simp [go_sem, *]) ?_; walk_nrm)
      q_c stepG_region_end
      q_c stepG_seq
      q_c stepG_seq
      q_reg
      (refine QuitsD.value (.bool true) rfl rfl (by k_ne) (fun _ => by go_simp; try (first | omega | (w_num; omega) | w_num | decide)) (fun _ => by simp [go_sem, *]) ?_; walk_nrm)
      (refine QuitsD.value (.int .i64 (-1)) rfl rfl (by k_ne) (fun _ => by go_simp; try (first | omega | (w_num; omega) | w_num | decide)) (fun _ => by simp [go_sem, *]) ?_; walk_nrm)
      (refine QuitsD.value (.bool false) rfl rfl (by k_ne) (fun _ => by go_simp; try (first | omega | (w_num; omega) | w_num | decide)) (fun _ => by simp [go_sem, *]) ?_; walk_nrm)
      (refine QuitsD.value (.bool false) rfl rfl (by k_ne) (fun _ => by go_simp; try (first | omega | (w_num; omega) | w_num | decide)) (fun _ => by simp [go_sem, *]) ?_; walk_nrm)
      (refine QuitsD.value (.bool false) rfl rfl (by k_ne) (fun _ => by go_simp; try (first | omega | (w_num; omega) | w_num | decide)) (fun _ => by simp [go_sem, *]) ?_; walk_nrm)
      q_skip
      q_skip
      q_skip
      q_skip
      (refine QuitsD.value (.bool false) rfl rfl (by k_ne) (fun _ => by go_simp; try (first | omega | (w_num; omega) | w_num | decide)) (fun _ => by simp [go_sem, *]) ?_; walk_nrm)
      q_c stepG_region_end
      q_cond false
      q_c stepG_skip
      q_c stepG_seq
      q_c stepG_seq
      q_reg
      (refine QuitsD.value (.int .i32 V) rfl rfl (by k_ne) (fun _ => by go_simp; try (first | omega | (w_num; omega) | w_num | decide)) (fun _ => by simp [go_sem, *]) ?_; walk_nrm)
      (refine QuitsD.value (.bool false) rfl rfl (by k_ne) (fun _ => by go_simp; try (first | omega | (w_num; omega) | w_num | decide)) (fun _ => by simp [go_sem, *]) ?_; walk_nrm)
      q_c stepG_region_end
      q_cond false
      q_c stepG_skip
      q_c stepG_seq
      q_c stepG_seq
      q_reg
      (refine QuitsD.value (.int .u32 0) rfl rfl (by k_ne) (fun _ => by go_simp; try (first | omega | (w_num; omega) | w_num | decide)) (fun _ => by simp [go_sem, *]) ?_; walk_nrm)
      (refine QuitsD.value (.bool false) rfl rfl (by k_ne) (fun _ => by go_simp; try (first | omega | (w_num; omega) | w_num | decide)) (fun _ => by simp [go_sem, *]) ?_; walk_nrm)
      (refine QuitsD.value (.bool false) rfl rfl (by k_ne) (fun _ => by go_simp; try (first | omega | (w_num; omega) | w_num | decide)) (fun _ => by simp [go_sem, *]) ?_; walk_nrm)
      q_skip
      q_skip
      (refine QuitsD.value (.bool false) rfl rfl (by k_ne) (fun _ => by go_simp; try (first | omega | (w_num; omega) | w_num | decide)) (fun _ => by simp [go_sem, *]) ?_; walk_nrm)
      (refine QuitsD.value (.bool false) rfl rfl (by k_ne) (fun _ => by go_simp; try (first | omega | (w_num; omega) | w_num | decide)) (fun _ => by simp [go_sem, *]) ?_; walk_nrm)
      q_skip
      q_skip
      q_skip
      q_skip
      (refine QuitsD.value (.bool false) rfl rfl (by k_ne) (fun _ => by go_simp; try (first | omega | (w_num; omega) | w_num | decide)) (fun _ => by simp [go_sem, *]) ?_; walk_nrm)
      q_c stepG_region_end
      q_cond false
      q_c stepG_skip
      q_c stepG_seq
      q_c stepG_seq
      q_reg
      (refine QuitsD.value (.int .i32 V) rfl rfl (by k_ne) (fun _ => by go_simp; try (first | omega | (w_num; omega) | w_num | decide)) (fun _ => by simp [go_sem, *]) ?_; walk_nrm)
      (refine QuitsD.value (.bool true) rfl rfl (by k_ne) (fun _ => by go_simp; try (first | omega | (w_num; omega) | w_num | decide)) (fun _ => by simp [go_sem, *]) ?_; walk_nrm)
      (refine QuitsD.value (.bool true) rfl rfl (by k_ne) (fun _ => by go_simp; try (first | omega | (w_num; omega) | w_num | decide)) (fun _ => by simp [go_sem, *]) ?_; walk_nrm)
      q_skip
      q_skip
      (refine QuitsD.value (.bool true) rfl rfl (by k_ne) (fun _ => by go_simp; try (first | omega | (w_num; omega) | w_num | decide)) (fun _ => by simp [go_sem, *]) ?_; walk_nrm)
      q_c stepG_region_end
      q_cond true
      q_c stepG_ret'
      q_enable
      q_leave0 H.f_add
      q_c stepG_region_end
      q_c stepG_end
      exact QuitsD.leaveD rfl rfl H.f_done rfl hcm hT
    · obtain rfl : wt = 1 := by omega
      refine Run.of_quits (q := qt + 92) (d := 1) ?_
      obtain ⟨V, hV⟩ : ∃ V : Int, V = ((v : Nat) : Int) := ⟨_, rfl⟩
      obtain ⟨S, hS⟩ : ∃ S : Int, S = V * KK + (1 : Nat) := ⟨_, rfl⟩
      rw [← hV, ← hS]
      have a1 : S / 4294967296 = V := by rw [hS]; simp only [KK]; omega
      have b1 : bits .and .u64 S 2147483648 = 0 := by rw [hS, hV]; have := st_flag v 1 (by omega) (by omega); simpa [KK] using this
      have b2 : bits .and .u64 S 2147483647 = 1 := by rw [hS, hV]; have := st_waiters v 1 (by omega) (by omega); simpa [KK] using this
      have c1 : IntKind.i32.wrap V = V := by rw [IntKind.wrap_i32]; omega
      have hV1 : 0 < V := by omega
      have hV2 : V < 2147483648 := by omega
      have q3 : decide (V < 0) = false := decide_eq_false (by omega)
      have q4 : decide (0 < V) = true := decide_eq_true (by omega)
      have q5 : (V == 0) = false := by simp; omega
      have q6 : decide (V = 0) = false := decide_eq_false (by omega)
      clear hS hV
      walk_nrm
      (refine QuitsD.value (.int .u64 S) rfl rfl (by k_ne) (fun _ => by go_simp; try (first | omega | (w_num; omega) | w_num | decide)) (fun _ => by simp [go_sem, *]) ?_; walk_nrm)
      q_c stepG_region_end
      q_c stepG_ret'
      q_leave1 H.f_uAdd
      (refine QuitsD.value (.int .u64 S) rfl rfl (by k_ne) (fun _ => by go_simp; try (first | omega | (w_num; omega) | w_num | decide)) (fun _ => by simp [go_sem, *]) ?_; walk_nrm)
      q_c stepG_region_end
      q_c stepG_seq
      q_c stepG_seq
      q_reg
      (refine QuitsD.value (.int .u64 S) rfl rfl (by k_ne) (fun _ => by go_simp; try (first | omega | (w_num; omega) | w_num | decide)) (fun _ => by simp [go_sem, *]) ?_; walk_nrm)
      (refine QuitsD.value (.int .u64 0) rfl rfl (by k_ne) (fun _ => by go_simp; try (first | omega | (w_num; omega) | w_num | decide)) (fun _ => by simp [go_sem, *]) ?_; walk_nrm)
      (refine QuitsD.value (.bool false) rfl rfl (by k_ne) (fun _ => by go_simp; try (first | omega | (w_num; omega) | w_num | decide)) (fun _ => by simp [go_sem, *]) ?_; walk_nrm)
      (refine QuitsD.value (.bool false) rfl rfl (by k_ne) (fun _ => by go_simp; try (first | omega | (w_num; omega) | w_num | decide)) (fun _ => by simp [go_sem, *]) ?_; walk_nrm)
      q_skip
      q_skip
      (refine QuitsD.value (.bool false) rfl rfl (by k_ne) (fun _ => by go_simp; try (first | omega | (w_num; omega) | w_num | decide)) (fun _ => by simp [go_sem, *]) ?_; walk_nrm)
      q_c stepG_region_end
      q_cond false
      q_c stepG_skip
      q_c stepG_seq
      q_reg
      (refine QuitsD.value (.int .u64 S) rfl rfl (by k_ne) (fun _ => by go_simp; try (first | omega | (w_num; omega) | w_num | decide)) (fun _ => by simp [go_sem, *]) ?_; walk_nrm)
      (refine QuitsD.value (.int .u64 V) rfl rfl (by k_ne) (fun _ => by go_simp; try (first | omega | (w_num; omega) | w_num | decide)) (fun _ => by simp [go_sem, *]) ?_; walk_nrm)
      (refine QuitsD.value (.int .i32 V) rfl rfl (by k_ne) (fun _ => by go_simp; try (first | omega | (w_num; omega) | w_num | decide)) (fun _ => by simp [go_sem, *]) ?_; walk_nrm)
      (refine QuitsD.value (.int .i32 V) rfl rfl (by k_ne) (fun _ => by go_simp; try (first | omega | (w_num; omega) | w_num | decide)) (fun _ => by simp [go_sem, *]) ?_; walk_nrm)
      q_c stepG_region_end
      q_c stepG_seq
      q_reg
      (refine QuitsD.value (.int .u64 S) rfl rfl (by k_ne) (fun _ => by go_simp; try (first | omega | (w_num; omega) | w_num | decide)) (fun _ => by simp [go_sem, *]) ?_; walk_nrm)
      (refine QuitsD.value (.int .u64 1) rfl rfl (by k_ne) (fun _ => by go_simp; try (first | omega | (w_num; omega) | w_num | decide)) (fun _ => by simp [go_sem, *]) ?_; walk_nrm)
      (refine QuitsD.value (.int .u32 1) rfl rfl (by k_ne) (fun _ => by go_simp; try (first | omega | (w_num; omega) | w_num | decide)) (fun _ => by simp [go_sem, *]) ?_; walk_nrm)
      (refine QuitsD.value (.int .u32 1) rfl rfl (by k_ne) (fun _ => by go_simp; try (first | omega | (w_num; omega) | w_num | decide)) (fun _ => by simp [go_sem, *]) ?_; walk_nrm)
      q_c stepG_region_end
      q_c stepG_seq
      q_c stepG_seq
      q_reg
      (refine QuitsD.value (.bool true) rfl rfl (by k_ne) (fun _ => by go_simp; try (first | omega | (w_num; omega) | w_num | decide)) (fun _ => by simp [go_sem, *]) ?_; walk_nrm)
      (refine QuitsD.value (.int .i64 (-1)) rfl rfl (by k_ne) (fun _ => by go_simp; try (first | omega | (w_num; omega) | w_num | decide)) (fun _ => by simp [go_sem, *]) ?_; walk_nrm)
      (refine QuitsD.value (.bool false) rfl rfl (by k_ne) (fun _ => by go_simp; try (first | omega | (w_num; omega) | w_num | decide)) (fun _ => by simp [go_sem, *]) ?_; walk_nrm)
      (refine QuitsD.value (.bool false) rfl rfl (by k_ne) (fun _ => by go_simp; try (first | omega | (w_num; omega) | w_num | decide)) (fun _ => by simp [go_sem, *]) ?_; walk_nrm)
      (refine QuitsD.value (.bool false) rfl rfl (by k_ne) (fun _ => by go_simp; try (first | omega | (w_num; omega) | w_num | decide)) (fun _ => by simp [go_sem, *]) ?_; walk_nrm)
      q_skip
      q_skip
      q_skip
      q_skip
      (refine QuitsD.value (.bool false) rfl rfl (by k_ne) (fun _ => by go_simp; try (first | omega | (w_num; omega) | w_num | decide)) (fun _ => by simp [go_sem, *]) ?_; walk_nrm)
      q_c stepG_region_end
      q_cond false
      q_c stepG_skip
      q_c stepG_seq
      q_c stepG_seq
      q_reg
      (refine QuitsD.value (.int .i32 V) rfl rfl (by k_ne) (fun _ => by go_simp; try (first | omega | (w_num; omega) | w_num | decide)) (fun _ => by simp [go_sem, *]) ?_; walk_nrm)
      (refine QuitsD.value (.bool false) rfl rfl (by k_ne) (fun _ => by go_simp; try (first | omega | (w_num; omega) | w_num | decide)) (fun _ => by simp [go_sem, *]) ?_; walk_nrm)
      q_c stepG_region_end
      q_cond false
      q_c stepG_skip
      q_c stepG_seq
      q_c stepG_seq
      q_reg
      (refine QuitsD.value (.int .u32 1) rfl rfl (by k_ne) (fun _ => by go_simp; try (first | omega | (w_num; omega) | w_num | decide)) (fun _ => by simp [go_sem, *]) ?_; walk_nrm)
      (refine QuitsD.value (.bool true) rfl rfl (by k_ne) (fun _ => by go_simp; try (first | omega | (w_num; omega) | w_num | decide)) (fun _ => by simp [go_sem, *]) ?_; walk_nrm)
      (refine QuitsD.value (.bool true) rfl rfl (by k_ne) (fun _ => by go_simp; try (first | omega | (w_num; omega) | w_num | decide)) (fun _ => by simp [go_sem, *]) ?_; walk_nrm)
      (refine QuitsD.value (.int .i64 (-1)) rfl rfl (by k_ne) (fun _ => by go_simp; try (first | omega | (w_num; omega) | w_num | decide)) (fun _ => by simp [go_sem, *]) ?_; walk_nrm)
      (refine QuitsD.value (.bool false) rfl rfl (by k_ne) (fun _ => by go_simp; try (first | omega | (w_num; omega) | w_num | decide)) (fun _ => by simp [go_sem, *]) ?_; walk_nrm)
      (refine QuitsD.value (.bool false) rfl rfl (by k_ne) (fun _ => by go_simp; try (first | omega | (w_num; omega) | w_num | decide)) (fun _ => by simp [go_sem, *]) ?_; walk_nrm)
      (refine QuitsD.value (.bool false) rfl rfl (by k_ne) (fun _ => by go_simp; try (first | omega | (w_num; omega) | w_num | decide)) (fun _ => by simp [go_sem, *]) ?_; walk_nrm)
      q_skip
      q_skip
      q_skip
      q_skip
      (refine QuitsD.value (.bool false) rfl rfl (by k_ne) (fun _ => by go_simp; try (first | omega | (w_num; omega) | w_num | decide)) (fun _ => by simp [go_sem, *]) ?_; walk_nrm)
      q_c stepG_region_end
      q_cond false
      q_c stepG_skip
      q_c stepG_seq
      q_c stepG_seq
      q_reg
      (refine QuitsD.value (.int .i32 V) rfl rfl (by k_ne) (fun _ => by go_simp; try (first | omega | (w_num; omega) | w_num | decide)) (fun _ => by simp [go_sem, *]) ?_; walk_nrm)
      (refine QuitsD.value (.bool true) rfl rfl (by k_ne) (fun _ => by go_simp; try (first | omega | (w_num; omega) | w_num | decide)) (fun _ => by simp [go_sem, *]) ?_; walk_nrm)
      (refine QuitsD.value (.bool true) rfl rfl (by k_ne) (fun _ => by go_simp; try (first | omega | (w_num; omega) | w_num | decide)) (fun _ => by simp [go_sem, *]) ?_; walk_nrm)
      q_skip
      q_skip
      (refine QuitsD.value (.bool true) rfl rfl (by k_ne) (fun _ => by go_simp; try (first | omega | (w_num; omega) | w_num | decide)) (fun _ => by simp [go_sem, *]) ?_; walk_nrm)
      q_c stepG_region_end
      q_cond true
      q_c stepG_ret'
      q_enable
      q_leave0 H.f_add
      q_c stepG_region_end
      q_c stepG_end
      exact QuitsD.leaveD rfl rfl H.f_done rfl hcm hT
end
end Go.Proofs.YtpdojmebloekgaaDoor.Nice.Co
