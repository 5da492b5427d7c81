/- Regions, beside others: one operation as a step between states; a region in the text's order, and one that draws its order. -/
import Derived.Test.YtpdojmebloekgaaDoorZCoB
namespace Go.Proofs.YtpdojmebloekgaaDoor.Nice.Co
open Go Go.Conc
set_option linter.unusedVariables false
set_option linter.unusedSimpArgs false

/-- What one operation does, beside others, wherever its operands and the blocks that it looks into are as told. -/
def OpOK (C : Ctx) (o : Oper) (nm : Nat) (v : Operand → SV) (bs : List (Nat × Blk)) (RS : SV → List (Nat × Option Blk) → Prop) : Prop :=
  ∀ (K : Tr C.P) A F M ρ a h w, Fit A K.Rd F M w → (∀ x, x ∈ o.op.operands → VR M ρ (v x) (a.eval x)) → (∀ g ρ, VR M ρ (C.G g) (.pointer (some ⟨g, 0, none⟩))) → HR M (ext A K.Rd F w) ρ h w → (∀ p, p ∈ bs → h p.1 = some p.2) → (∀ n, nm ≤ n → n < nm + 8 → ρ n = none) →
    ∀ (gd : Option (Nat × Bool)) (b : Frame) (ops : Array Oper) (i : Nat) (rest : List Nat) (k : List Item) (cs : List Frame), ops[i]? = some { o with guard := gd } → Region.wanted { o with guard := gd } (yielded ops a.tmps) = true → b.kind ≠ .early →
      (∀ A' M' ρ' u wr u' w', (∀ x, A x → A' x) → M.le M' → ρ.le ρ' → (∀ n, n < nm ∨ nm + 8 ≤ n → ρ' n = ρ n) → RS u wr → VR M' ρ' u u' → Fit A' K.Rd F M' w' → HR M' (ext A' K.Rd F w') ρ' (wrH h wr) w' → Same w w' → K.T A' (G (b.at (a.put o.dst u') (.inRegion ops rest :: k)) cs) w') →
      K.T A (G (b.at a (.inRegion ops (i :: rest) :: k)) cs) w

def D1 (C : Ctx) (ops : List Oper) (nm : Nat) (o : Oper) (σ : St) (fp : FP) (σ' : St) : Prop :=
  dstOK C o = true ∧
  ((gOn ops σ.t o ∧ ∃ bs u wr, OpOK C o nm (opv C σ.t) bs (fun x y => x = u ∧ y = wr) ∧ (∀ p, p ∈ bs → σ.h p.1 = some p.2) ∧ keysIn bs nm wr = true ∧
      fp = (bs.map (·.1), wr.map (·.1)) ∧ σ' = σ.app o.dst u wr) ∨
   (gOff ops σ.t o ∧ fp = ([], []) ∧ σ' = σ.app o.dst (.tup []) []))

/-- The operations one behind the other: 'acc' gathers what each looks at and writes, where the region draws its order. -/
def wops (C : Ctx) (ops0 : List Oper) : Nat → List Oper → St → Option (List FP) → (St → Prop) → Prop
  | _, [], σ, acc, K => chk ops0 acc ∧ K ⟨σ.t, σ.h, σ.nx + 8 * ops0.length⟩
  | i, o :: l, σ, acc, K =>
    (∃ fp σ', D1 C ops0 (σ.nx + 8 * i) o σ fp σ' ∧ wops C ops0 (i + 1) l σ' (acc.map (· ++ [fp])) K) ∨
    (acc = none ∧ dstOK C o = true ∧ gOn ops0 σ.t o ∧ ∃ bs RS, OpOK C o (σ.nx + 8 * i) (opv C σ.t) bs RS ∧ (∀ p, p ∈ bs → σ.h p.1 = some p.2) ∧
      ∀ u wr, RS u wr → wops C ops0 (i + 1) l (σ.app o.dst u wr) none K)

theorem D1_same {C : Ctx} {ops : List Oper} {nm : Nat} {o : Oper} {σ τ : St} {fp : FP} {σ' : St} (h : D1 C ops nm o σ fp σ')
    (hv : ∀ y, y ∈ o.op.operands → opv C τ.t y = opv C σ.t y) (hg : ∀ j want s, o.guard = some (j, want) → gslot ops j = some s → τ.t s = σ.t s) (hh : ∀ n, n ∈ fp.1 → τ.h n = σ.h n) :
    ∃ u wr, wr.map (·.1) = fp.2 ∧ σ' = σ.app o.dst u wr ∧ D1 C ops nm o τ fp (τ.app o.dst u wr) := by
  obtain ⟨hd, h⟩ := h
  rcases h with ⟨hgo, bs, u, wr, hok, hbs, hk, rfl, rfl⟩ | ⟨hgo, rfl, rfl⟩
  · refine ⟨u, wr, rfl, rfl, hd, .inl ⟨?_, bs, u, wr, ?_, ?_, hk, rfl, rfl⟩⟩
    · unfold gOn at *
      cases e : o.guard with
      | none => trivial
      | some p => obtain ⟨j, want⟩ := p; rw [e] at hgo; obtain ⟨s, h1, h2⟩ := hgo; exact ⟨s, h1, (hg j want s e h1).trans h2⟩
    · intro K A F M ρ a h w hf hx
      exact hok K A F M ρ a h w hf fun y hy => by rw [← hv y hy]; exact hx y hy
    · intro p hp
      rw [hh p.1 (List.mem_map.2 ⟨p, hp, rfl⟩)]; exact hbs p hp
  · refine ⟨.tup [], [], rfl, rfl, hd, .inr ⟨?_, rfl, rfl⟩⟩
    unfold gOff at *
    cases e : o.guard with
    | none => rw [e] at hgo; exact hgo
    | some p => obtain ⟨j, want⟩ := p; rw [e] at hgo; obtain ⟨s, h1, h2⟩ := hgo; exact ⟨s, h1, (match h2 with | .inl h3 => .inl ((hg j want s e h1).trans h3) | .inr h3 => .inr ((hg j want s e h1).trans h3))⟩

/-- Two operations that do not touch each other may change places. -/
theorem D1_swap {C : Ctx} {ops : List Oper} {n1 n2 : Nat} {x y : Oper} {σ σ1 σ2 : St} {f g : FP} (hi : indepB ops x y f g = true)
    (h1 : D1 C ops n1 x σ f σ1) (h2 : D1 C ops n2 y σ1 g σ2) : ∃ τ, D1 C ops n2 y σ g τ ∧ D1 C ops n1 x τ f σ2 := by
  obtain ⟨i1, i2, i3, i4, i5⟩ := indepB_spec hi
  obtain ⟨u, wr, hw, rfl, _⟩ := D1_same (τ := σ) h1 (fun _ _ => rfl) (fun _ _ _ _ _ => rfl) (fun _ _ => rfl)
  obtain ⟨v, wr2, hw2, rfl, k2⟩ := D1_same (τ := σ) h2 (fun z hz => (opv_app (t := σ.t) i1 z hz).symm) (fun j want s hg hs => (guard_app (t := σ.t) (u := u) i1 j want s hg hs).symm)
    (fun n hn => (wrH_get σ.h wr n fun p hp e => (i4 p.1 (hw ▸ List.mem_map.2 ⟨p, hp, rfl⟩)).1 (e ▸ hn)).symm)
  refine ⟨_, k2, ?_⟩
  obtain ⟨u', wr', hw', he, k1⟩ := D1_same (τ := σ.app y.dst v wr2) h1 (fun z hz => opv_app (t := σ.t) i3 z hz) (fun j want s hg hs => guard_app (t := σ.t) (u := v) i3 j want s hg hs)
    (fun n hn => wrH_get σ.h wr2 n fun p hp e => i5 p.1 (hw2 ▸ List.mem_map.2 ⟨p, hp, rfl⟩) (e ▸ hn))
  have e2 : (σ.app x.dst u wr).app y.dst v wr2 = (σ.app x.dst u' wr').app y.dst v wr2 := by rw [he]
  rw [e2, app_comm σ (fun d hd he => i2 d hd he) (by rw [hw', hw2]; exact fun n hn => (i4 n hn).2)]
  exact k1

/-- The operations of a list of places, each with the footprint that 'fps' tells. -/
def Runs (C : Ctx) (ops : List Oper) (fps : List FP) (nx : Nat) : List Nat → St → St → Prop
  | [], σ, τ => σ = τ
  | i :: l, σ, τ => ∃ o f σ', ops[i]? = some o ∧ fps[i]? = some f ∧ D1 C ops (nx + 8 * i) o σ f σ' ∧ Runs C ops fps nx l σ' τ

theorem Runs_front {C : Ctx} {ops : List Oper} {fps : List FP} {nx i : Nat} {oi : Oper} {fi : FP} (ho : ops[i]? = some oi) (hf : fps[i]? = some fi) :
    ∀ (A B : List Nat) (σ τ : St), (∀ j, j ∈ A → ∀ o f, ops[j]? = some o → fps[j]? = some f → indepB ops o oi f fi = true) → Runs C ops fps nx (A ++ i :: B) σ τ →
      Runs C ops fps nx (i :: (A ++ B)) σ τ
  | [], B, σ, τ, _, h => h
  | j :: A, B, σ, τ, hA, h => by
    obtain ⟨o, f, σ1, h1, h2, h3, h4⟩ := h
    obtain ⟨o', f', σ2, k1, k2, k3, k4⟩ := Runs_front ho hf A B σ1 τ (fun j hj => hA j (List.mem_cons_of_mem _ hj)) h4
    rw [ho] at k1; rw [hf] at k2
    obtain rfl := Option.some.inj k1
    obtain rfl := Option.some.inj k2
    obtain ⟨τ1, t1, t2⟩ := D1_swap (hA j (List.mem_cons_self ..) o f h1 h2) h3 k3
    exact ⟨oi, fi, τ1, ho, hf, t1, o, f, σ2, h1, h2, t2, k4⟩

theorem wops_runs {C : Ctx} {ops : List Oper} {K : St → Prop} : ∀ (l : List Oper) (i : Nat) (σ : St) (acc : List FP), acc.length = i → (∀ j, l[j]? = ops[i + j]?) →
    wops C ops i l σ (some acc) K → ∃ fps τ, fps.take i = acc ∧ fpOK ops fps = true ∧ Runs C ops fps σ.nx (List.range' i l.length) σ τ ∧ τ.nx = σ.nx ∧ K ⟨τ.t, τ.h, τ.nx + 8 * ops.length⟩ := by
  intro l
  induction l with
  | nil =>
    intro i σ acc hi hl h
    obtain ⟨hc, hK⟩ := h
    exact ⟨acc, σ, by rw [← hi, List.take_length], hc, rfl, rfl, hK⟩
  | cons o l ih =>
    intro i σ acc hi hl h
    unfold wops at h
    rcases h with ⟨fp, σ', hD, hrest⟩ | ⟨h0, _⟩
    · have hnx : σ'.nx = σ.nx := by
        obtain ⟨_, h⟩ := hD
        rcases h with ⟨_, _, _, _, _, _, _, _, rfl⟩ | ⟨_, _, rfl⟩ <;> rfl
      obtain ⟨fps, τ, h1, h2, h3, h4, h5⟩ := ih (i + 1) σ' (acc ++ [fp]) (by simp [hi]) (fun j => by have := hl (j + 1); simp at this; rw [this]; congr 1; omega) hrest
      have hlen : i < fps.length := by
        have := congrArg List.length h1
        simp at this; omega
      have htake : fps.take i = acc := by
        have := congrArg (List.take i) h1
        rw [List.take_take, Nat.min_eq_left (by omega), ← hi, List.take_left] at this
        rw [← hi]; exact this
      have hget : fps[i]? = some fp := by
        have := congrArg (fun l => l[i]?) h1
        simp only [List.getElem?_take] at this
        rw [if_pos (by omega), List.getElem?_append_right (by omega)] at this
        simpa [hi] using this
      refine ⟨fps, τ, htake, h2, ?_, h4.trans hnx, h5⟩
      rw [List.length_cons, List.range'_succ]
      refine ⟨o, fp, σ', ?_, hget, hD, ?_⟩
      · have := hl 0; simpa using this.symm
      · rw [hnx] at h3; exact h3
    · cases h0


theorem SC.app {C : Ctx} {A A' Rd : Blks} {M M' F : Imm} {pin ρ ρ' : Names} {σ : St} {a : Act} {w w' : World} (hs : SR0 C M (ext A Rd F w) pin ρ σ a w) {o : Oper} (hd : dstOK C o = true) {u : SV} {wr : List (Nat × Option Blk)} {u' : Value}
    (hM : M.le M') (hρ : ρ.le ρ') (hv : VR M' ρ' u u') (hh : HR M' (ext A' Rd F w') ρ' (wrH σ.h wr) w') : SR0 C M' (ext A' Rd F w') pin ρ' (σ.app o.dst u wr) (a.put o.dst u') w' := by
  refine ⟨fun k => ?_, ?_, ?_, hh, Names.le_trans hs.pn hρ, hs.pm, fun g ρ => (hs.gl g ρ).mono hM (Names.le_refl _)⟩
  · cases ho : o.dst with
    | none => exact (hs.tm k).mono hM hρ
    | some d =>
      have hlt : d < a.tmps.size := by rw [hs.sz]; simpa [dstOK, ho] using hd
      show VR M' ρ' (upd σ.t d u k) _
      rw [upd_eq]
      split
      · next e => subst e; rw [getD_put_same hlt]; exact hv
      · next e => rw [getD_put_other e]; exact (hs.tm k).mono hM hρ
  · cases o.dst <;> simp [Act.put, hs.sz]
  · cases o.dst <;> simp [Act.put, hs.df]

theorem wops_text {C : Ctx} (K : Tr C.P) {ops : Array Oper} {Kf : St → Prop} {M0 F : Imm} {pin : Names} {A0 : Blks} {w0 : World} {b : Frame} {k : List Item} {cs : List Frame} (hb : b.kind ≠ .early)
    (hfin : ∀ A' M' ρ' σ' a' w', (∀ x, A0 x → A' x) → M0.le M' → SC C A' K.Rd F M' pin ρ' σ' a' w' → Same w0 w' → Kf σ' → K.T A' (G (b.at a' k) cs) w') :
    ∀ (l : List Oper) (i : Nat) (σ : St) (A : Blks) (M : Imm) (ρ : Names) (a : Act) (w : World), l = ops.toList.drop i → i ≤ ops.size → (∀ x, A0 x → A x) → M0.le M → Same w0 w → Fit A K.Rd F M w → SR0 C M (ext A K.Rd F w) pin ρ σ a w → (∀ n, σ.nx + 8 * i ≤ n → ρ n = none) →
      wops C ops.toList i l σ none Kf → K.T A (G (b.at a (.inRegion ops (List.range' i l.length) :: k)) cs) w := by
  intro l
  induction l with
  | nil =>
    intro i σ A M ρ a w hl hi hA hM hw hf hs hfr h
    obtain ⟨_, hK⟩ := h
    have hie : i = ops.size := by
      have := congrArg List.length hl
      simp at this; omega
    refine K.idle rfl (fun _ => stepG_region_end) (hfin A M ρ ⟨σ.t, σ.h, σ.nx + 8 * ops.toList.length⟩ a w hA hM ⟨hf, ⟨⟨hs.tm, hs.sz, hs.df, hs.hr, hs.pn, hs.pm, hs.gl⟩, ?_⟩⟩ hw hK)
    intro n hn
    have hn' : σ.nx + 8 * ops.toList.length ≤ n := hn
    exact hfr n (by simp at hn'; omega)
  | cons o l ih =>
    intro i σ A M ρ a w hl hi hA hM hw hf hs hfr h
    have ho : ops[i]? = some o := by
      have := congrArg (fun l => l[0]?) hl
      simp [List.getElem?_drop] at this
      exact this.symm
    have hlt : i < ops.size := (Array.getElem?_eq_some_iff.1 ho).1
    have hl' : l = ops.toList.drop (i + 1) := by
      have := congrArg List.tail hl
      simpa using this
    rw [List.length_cons, List.range'_succ]
    have on : ∀ (hd : dstOK C o = true) (hg : gOn ops.toList σ.t o) bs RS, OpOK C o (σ.nx + 8 * i) (opv C σ.t) bs RS → (∀ p, p ∈ bs → σ.h p.1 = some p.2) →
        (∀ u wr, RS u wr → wops C ops.toList (i + 1) l (σ.app o.dst u wr) none Kf) → K.T A (G (b.at a (.inRegion ops (i :: List.range' (i + 1) l.length) :: k)) cs) w := by
      intro hd hg bs RS hok hbs hnext
      refine hok K A F M ρ a σ.h w hf (fun x _ => opv_rel hs x) hs.gl hs.hr hbs (fun n h1 h2 => hfr n h1) o.guard b ops i _ k cs ho (wanted_on hs hg) hb ?_
      intro A' M' ρ' u wr u' w' h0 h1 h2 h3 h4 h5 h5f h6 h7
      refine ih (i + 1) _ A' M' ρ' _ w' hl' hlt (fun x hx => h0 x (hA x hx)) (Imm.le_trans hM h1) (hw.trans h7) h5f (SC.app hs hd h1 h2 h5 h6) ?_ (hnext u wr h4)
      intro n hn
      have hn' : σ.nx + 8 * (i + 1) ≤ n := hn
      rw [h3 n (.inr (by omega))]
      exact hfr n (by omega)
    unfold wops at h
    rcases h with ⟨fp, σ', ⟨hd, hD⟩, hrest⟩ | ⟨_, hd, hg, bs, RS, hok, hbs, hnext⟩
    · rcases hD with ⟨hg, bs, u, wr, hok, hbs, _, _, rfl⟩ | ⟨hg, _, rfl⟩
      · exact on hd hg bs _ hok hbs (fun u' wr' ⟨e1, e2⟩ => by subst e1; subst e2; exact hrest)
      · refine K.idle rfl (fun _ => stepG_unwanted ho (wanted_off hs hg)) ?_
        refine ih (i + 1) _ A M ρ _ w hl' hlt hA hM hw hf (SC.app hs (wr := []) hd (Imm.le_refl _) (Names.le_refl _) VR.skip hs.hr) ?_ hrest
        intro n hn
        have hn' : σ.nx + 8 * (i + 1) ≤ n := hn
        exact hfr n (by omega)
    · exact on hd hg bs RS hok hbs hnext

theorem W_region {C : Ctx} {id : Nat} {ops : Array Oper} {Q : Exit → St → Prop} {σ : St} (h : wops C ops.toList 0 ops.toList σ none (fun σ' => Q .normal σ')) : W C (.region id ops false) Q σ := by
  intro K A F M pin ρ a w hs b k cs hb hp
  refine K.idle rfl (fun _ => stepG_region) ?_
  have := wops_text K (Kf := fun σ' => Q .normal σ') (M0 := M) (F := F) (pin := pin) (A0 := A) (w0 := w) hb (fun A' M' ρ' σ' a' w' h1 h2 h3 h4 h5 => hp .normal A' M' ρ' σ' a' w' h1 h2 h3 h4 h5) ops.toList 0 σ A M ρ a w rfl (Nat.zero_le _) (fun _ h => h) (Imm.le_refl _) (.refl _) hs.fit hs.sr.toSR0 (fun n hn => hs.sr.fr n (by omega)) h
  rw [List.range_eq_range']
  simpa using this

theorem wops_any {C : Ctx} (K : Tr C.P) {ops : Array Oper} {fps : List FP} {Kf : St → Prop} {M0 F : Imm} {pin : Names} {A0 : Blks} {w0 : World} {nx : Nat} {b : Frame} {kk : List Item} {cs : List Frame} (hb : b.kind ≠ .early)
    (hok : fpOK ops.toList fps = true)
    (hfin : ∀ A' M' ρ' σ' a' w', (∀ x, A0 x → A' x) → M0.le M' → SC C A' K.Rd F M' pin ρ' σ' a' w' → Same w0 w' → Kf σ' → K.T A' (G (b.at a' kk) cs) w') :
    ∀ (fuel tt : Nat) (l : List Nat) (listed : Array Bool) (σ τ : St) (A : Blks) (M : Imm) (ρ : Names) (a : Act) (w : World), l.length = fuel → l.Pairwise (· < ·) → listed.size = ops.size →
      (∀ i, i ∈ l ↔ i < ops.size ∧ listed.getD i true = false) →
      (∀ (i : Nat) (o : Oper), ops[i]? = some o → listed.getD i false = true → ∀ e, e ∈ edgesOf o → listed.getD e false = true) →
      (∀ x, A0 x → A x) → M0.le M → Same w0 w → Fit A K.Rd F M w → SR0 C M (ext A K.Rd F w) pin ρ σ a w → σ.nx = nx → (∀ i, i ∈ l → ∀ n, nx + 8 * i ≤ n → n < nx + 8 * i + 8 → ρ n = none) → (∀ n, nx + 8 * ops.size ≤ n → ρ n = none) →
      Runs C ops.toList fps nx l σ τ → Kf ⟨τ.t, τ.h, nx + 8 * ops.toList.length⟩ → K.T A (G (b.at a (.inRegion ops (Region.linearise.go .any ops fuel tt listed []) :: kk)) cs) w := by
  simp only [fpOK, Bool.and_eq_true] at hok
  obtain ⟨_, hall⟩ := hok
  have hget := allOK_get _ hall
  have hback : ∀ (i : Nat) (o : Oper), ops.toList[i]? = some o → ∀ e, e ∈ edgesOf o → e < i := by
    intro i o ho e he
    obtain ⟨o', f, h1, _, h2, _⟩ := hget i (List.getElem?_eq_some_iff.1 ho).1
    rw [ho] at h1; obtain rfl := Option.some.inj h1
    exact h2 e he
  have noready : ∀ (l : List Nat) (listed : Array Bool), l.Pairwise (· < ·) → listed.size = ops.size → (∀ i, i ∈ l ↔ i < ops.size ∧ listed.getD i true = false) → Region.ready .any ops listed = [] → l = [] := by
    intro l listed hp hsz hl hr
    cases l with
    | nil => rfl
    | cons i l =>
      exfalso
      obtain ⟨hi, hli⟩ := (hl i).1 (List.mem_cons_self ..)
      have : i ∈ Region.ready .any ops listed := by
        refine ready_iff.2 ⟨hi, hli, ops[i], Array.getElem?_eq_getElem hi, ?_⟩
        intro e he
        have hlt := hback i ops[i] (by simp [hi]) e he
        cases hb : listed.getD e true with
        | true =>
          have he' : e < listed.size := by omega
          simpa [Array.getD, he'] using hb
        | false =>
          have hm : e ∈ i :: l := (hl e).2 ⟨by omega, hb⟩
          rcases List.mem_cons.1 hm with h | h
          · omega
          · have := (List.pairwise_cons.1 hp).1 e h; omega
      rw [hr] at this; cases this
  have finish : ∀ (σ τ : St) (A : Blks) (M : Imm) (ρ : Names) (a : Act) (w : World), (∀ x, A0 x → A x) → M0.le M → Same w0 w → Fit A K.Rd F M w → SR0 C M (ext A K.Rd F w) pin ρ σ a w → σ.nx = nx →
      (∀ n, nx + 8 * ops.size ≤ n → ρ n = none) → σ = τ → Kf ⟨τ.t, τ.h, nx + 8 * ops.toList.length⟩ → K.T A (G (b.at a (.inRegion ops [] :: kk)) cs) w := by
    intro σ τ A M ρ a w hA hM hw hft hs hn hf e hK
    subst e
    refine K.idle rfl (fun _ => stepG_region_end) (hfin A M ρ ⟨σ.t, σ.h, nx + 8 * ops.toList.length⟩ a w hA hM ⟨hft, ⟨⟨hs.tm, hs.sz, hs.df, hs.hr, hs.pn, hs.pm, hs.gl⟩, ?_⟩⟩ hw hK)
    intro n hn'
    exact hf n (by simpa using hn')
  intro fuel
  induction fuel with
  | zero =>
    intro tt l listed σ τ A M ρ a w hlen hp hsz hl hdown hA hM hw hft hs hn hf1 hf2 hr hK
    have hnil : l = [] := List.length_eq_zero_iff.1 hlen
    subst hnil
    simp only [Region.linearise.go, List.reverse_nil]
    exact finish σ τ A M ρ a w hA hM hw hft hs hn hf2 hr hK
  | succ fuel ih =>
    intro tt l listed σ τ A M ρ a w hlen hp hsz hl hdown hA hM hw hft hs hn hf1 hf2 hr hK
    simp only [Region.linearise.go]
    change K.T A (G (b.at a (.inRegion ops (match (Region.ready .any ops listed)[tt % (Region.ready .any ops listed).length]? with
      | some i => Region.linearise.go .any ops fuel (tt / (Region.ready .any ops listed).length) (listed.setIfInBounds i true) [i]
      | none => [].reverse) :: kk)) cs) w
    cases hi : (Region.ready .any ops listed)[tt % (Region.ready .any ops listed).length]? with
    | none =>
      exfalso
      have hnil : Region.ready .any ops listed = [] := by
        cases hr : Region.ready .any ops listed with
        | nil => rfl
        | cons x xs =>
          rw [hr] at hi
          have hlt : tt % (x :: xs).length < (x :: xs).length := Nat.mod_lt _ (by simp)
          simp at hi
          simp at hlt
          omega
      have := noready l listed hp hsz hl hnil
      subst this
      simp at hlen
    | some i =>
      replace hi := List.mem_of_getElem? hi
      simp only []
      rw [linearise_go_acc, List.reverse_singleton, List.singleton_append]
      obtain ⟨hlt, hli, o, ho, hpre⟩ := ready_iff.1 hi
      have him : i ∈ l := (hl i).2 ⟨hlt, hli⟩
      obtain ⟨LA, LB, rfl, hLA⟩ := split_at_mem him
      have hoL : ops.toList[i]? = some o := by simpa using ho
      obtain ⟨o', f, h1, hfi, h3, h4⟩ := hget i (by simpa using hlt)
      rw [hoL] at h1; obtain rfl := Option.some.inj h1
      have hnot : ∀ j, j ∈ LA → j ∉ (reach ops.toList).getD i [] := by
        intro j hj hjr
        have hL := reach_listed (ops := ops.toList) (L := fun k => listed.getD k false = true) hback (fun k o hk => hdown k o (by simpa using hk)) i o hoL hpre j hjr
        have := ((hl j).1 (List.mem_append_left _ hj)).2
        have hjs : j < listed.size := by rw [hsz]; exact ((hl j).1 (List.mem_append_left _ hj)).1
        simp [Array.getD, hjs] at this hL
        rw [this] at hL; cases hL
      have hlt2 : ∀ j, j ∈ LA → j < i := by
        intro j hj
        exact (List.pairwise_append.1 hp).2.2 j hj i (List.mem_cons_self ..)
      have hfront := Runs_front (C := C) (nx := nx) hoL hfi LA LB σ τ (fun j hj p g hp2 hg => (pairsOK_get _ h4 j (hlt2 j hj)).resolve_left (hnot j hj) p g hp2 hg) hr
      obtain ⟨o2, f2, σ', k1, k2, hD, hrest⟩ := hfront
      rw [hoL] at k1; obtain rfl := Option.some.inj k1
      rw [hfi] at k2; obtain rfl := Option.some.inj k2
      have hl' : (LA ++ LB).length = fuel := by simp at hlen ⊢; omega
      have hp' : (LA ++ LB).Pairwise (· < ·) := by
        rw [List.pairwise_append] at hp ⊢
        refine ⟨hp.1, (List.pairwise_cons.1 hp.2.1).2, fun x hx y hy => hp.2.2 x hx y (List.mem_cons_of_mem _ hy)⟩
      have hiB : i ∉ LB := by
        intro hb
        have := (List.pairwise_cons.1 (List.pairwise_append.1 hp).2.1).1 i hb
        omega
      have hmem : ∀ j, j ∈ LA ++ LB ↔ j < ops.size ∧ (listed.setIfInBounds i true).getD j true = false := by
        intro j
        by_cases e : j = i
        · subst e
          constructor
          · intro h; rcases List.mem_append.1 h with h | h
            · exact absurd h hLA
            · exact absurd h hiB
          · rintro ⟨_, h⟩; simp [Array.getD, hsz, hlt] at h
        · have : (listed.setIfInBounds i true).getD j true = listed.getD j true := by
            rw [Array.getD_eq_getD_getElem?, Array.getD_eq_getD_getElem?, Array.getElem?_setIfInBounds_ne (Ne.symm e)]
          rw [this, ← hl j]
          simp [e]
      have hdown' : ∀ (k : Nat) (p : Oper), ops[k]? = some p → (listed.setIfInBounds i true).getD k false = true → ∀ e, e ∈ edgesOf p → (listed.setIfInBounds i true).getD e false = true := by
        have keep : ∀ e, listed.getD e false = true → (listed.setIfInBounds i true).getD e false = true := by
          intro e he
          by_cases h : e = i
          · subst h; simp [Array.getD, hsz, hlt]
          · rw [Array.getD_eq_getD_getElem?, Array.getElem?_setIfInBounds_ne (Ne.symm h), ← Array.getD_eq_getD_getElem?]; exact he
        intro k p hk hlk e he
        by_cases h : k = i
        · subst h
          rw [ho] at hk; obtain rfl := Option.some.inj hk
          exact keep e (hpre e he)
        · refine keep e (hdown k p hk ?_ e he)
          rw [Array.getD_eq_getD_getElem?, Array.getElem?_setIfInBounds_ne (Ne.symm h), ← Array.getD_eq_getD_getElem?] at hlk
          exact hlk
      obtain ⟨hd, hD⟩ := hD
      rcases hD with ⟨hg, bs, u, wr, hokk, hbs, _, _, rfl⟩ | ⟨hg, _, rfl⟩
      · refine hokk K A F M ρ a σ.h w hft (fun x _ => opv_rel hs x) hs.gl hs.hr hbs (fun n g1 g2 => hf1 i him n g1 g2) o.guard b ops i _ kk cs ho (wanted_on hs hg) hb ?_
        rintro A' M' ρ' u1 wr1 u' w' g0 g1 g2 g3 ⟨rfl, rfl⟩ g5 g5f g6 g7
        refine ih _ (LA ++ LB) _ _ τ A' M' ρ' _ w' hl' hp' (by simp [hsz]) hmem hdown' (fun x hx => g0 x (hA x hx)) (Imm.le_trans hM g1) (hw.trans g7) g5f (SC.app hs hd g1 g2 g5 g6) hn ?_ ?_ hrest hK
        · intro j hj n m1 m2
          have hji : j ≠ i := by rintro rfl; rcases List.mem_append.1 hj with h | h; exact hLA h; exact hiB h
          rw [g3 n (by omega)]
          refine hf1 j ?_ n m1 m2
          rcases List.mem_append.1 hj with h | h
          · exact List.mem_append_left _ h
          · exact List.mem_append_right _ (List.mem_cons_of_mem _ h)
        · intro n m1
          rw [g3 n (by omega)]; exact hf2 n m1
      · refine K.idle rfl (fun _ => stepG_unwanted ho (wanted_off hs hg)) ?_
        refine ih _ (LA ++ LB) _ _ τ A M ρ _ w hl' hp' (by simp [hsz]) hmem hdown' hA hM hw hft (SC.app hs (wr := []) hd (Imm.le_refl _) (Names.le_refl _) VR.skip hs.hr) hn ?_ hf2 hrest hK
        intro j hj n m1 m2
        refine hf1 j ?_ n m1 m2
        rcases List.mem_append.1 hj with h | h
        · exact List.mem_append_left _ h
        · exact List.mem_append_right _ (List.mem_cons_of_mem _ h)

theorem W_region_draw {C : Ctx} {id : Nat} {ops : Array Oper} {Q : Exit → St → Prop} {σ : St} (hm : C.P.follows .mixedOrders = true)
    (h : wops C ops.toList 0 ops.toList σ (some []) (fun σ' => Q .normal σ')) : W C (.region id ops true) Q σ := by
  intro K A F M pin ρ a w hs b k cs hb hp
  refine K.step A _ w rfl fun w₁ h₁ => ⟨_, _, #[], stepG_region_draw, ⟨⟨rfl, rfl, rfl, Nat.le_refl _⟩, fun _ _ _ => rfl, fun e he => by simp at he⟩, ?_⟩
  have hmore : more A w₁ { w₁ with drawn := w₁.drawn + 1 } = A := more_self A w₁
  rw [hmore]
  obtain ⟨fps, τ, _, h2, h3, h4, h5⟩ := wops_runs (K := fun σ' => Q .normal σ') ops.toList 0 σ [] rfl (fun j => by simp) h
  simp only [Region.schedule, hm, Bool.true_or, if_true]
  have hr := hr_rely hs.sr.hr hs.fit h₁
  have hf := fit_rely hs.fit h₁
  have ed : ext A K.Rd F { w₁ with drawn := w₁.drawn + 1 } = ext A K.Rd F w₁ := rfl
  refine wops_any K (Kf := fun σ' => Q .normal σ') (M0 := M) (F := F) (pin := pin) (A0 := A) (w0 := w) (nx := σ.nx) hb h2 (fun A' M' ρ' σ' a' w' h1 h2 h3 h4 h5 => hp .normal A' M' ρ' σ' a' w' h1 h2 h3 h4 h5) ops.size _ (List.range' 0 ops.toList.length) (Array.replicate ops.size false) σ τ A M ρ a _ (by simp) ?_ (by simp) ?_ ?_ (fun _ h => h) (Imm.le_refl _) (h₁.same.trans ⟨rfl, rfl, rfl, Nat.le_refl _⟩) ⟨hf.fa, hf.rm, hf.lt⟩
    ⟨hs.sr.tm, hs.sr.sz, hs.sr.df, by rw [ed]; exact hr.drawn _, hs.sr.pn, hs.sr.pm, hs.sr.gl⟩ rfl (fun i _ n g1 _ => hs.sr.fr n (by omega)) (fun n g1 => hs.sr.fr n (by omega)) h3 (by rw [← h4]; exact h5)
  · exact List.pairwise_lt_range'
  · intro i
    rw [List.mem_range']
    simp only [Array.length_toList]
    constructor
    · rintro ⟨j, hj, rfl⟩
      simp [Array.getD, hj]
    · rintro ⟨hi, _⟩
      exact ⟨i, hi, by omega⟩
  · intro i o ho hl
    have hi : i < ops.size := (Array.getElem?_eq_some_iff.1 ho).1
    simp [Array.getD, hi] at hl

end Go.Proofs.YtpdojmebloekgaaDoor.Nice.Co
