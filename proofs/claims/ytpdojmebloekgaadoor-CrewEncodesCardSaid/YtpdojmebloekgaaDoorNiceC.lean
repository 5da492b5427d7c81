/- Regions: one operation as a step between states; a region in the text's order, and one that draws its order. -/
import Derived.Test.YtpdojmebloekgaaDoorNiceB
import Derived.Orders
namespace Go.Proofs.YtpdojmebloekgaaDoor.Nice
open Go
set_option linter.unusedVariables false

def St.app (σ : St) (dst : Option Tmp) (u : SV) (wr : List (Nat × Option Blk)) : St :=
  ⟨match dst with | some d => upd σ.t d u | none => σ.t, wrH σ.h wr, σ.nx⟩

/-- What one operation does, wherever its operands and the blocks that it looks into are as told. -/
def OpOK (C : Ctx) (o : Oper) (nm : Nat) (v : Operand → SV) (bs : List (Nat × Blk)) (RS : SV → List (Nat × Option Blk) → Prop) : Prop :=
  ∀ M F ρ a h w, (∀ x, x ∈ o.op.operands → VR M ρ (v x) (a.eval x)) → (∀ g ρ, VR M ρ (C.G g) (.pointer (some ⟨g, 0, none⟩))) → HR M F ρ h w → (∀ p, p ∈ bs → h p.1 = some p.2) → (∀ n, nm ≤ n → n < nm + 8 → ρ n = none) →
    ∀ (K : Act → World → Prop) (Q : Go.Exit → Act → World → Prop),
      (∀ M' ρ' u wr u' w', M.le M' → ρ.le ρ' → (∀ n, n < nm ∨ nm + 8 ≤ n → ρ' n = ρ n) → RS u wr → VR M' ρ' u u' → HR M' F ρ' (wrH h wr) w' → Same w w' → K (a.put o.dst u') w') → o.wp C.P a w K Q

abbrev FP := List Nat × List Nat

def gslot (ops : List Oper) (j : Nat) : Option Tmp := (ops[j]?).bind (·.dst)
def gOn (ops : List Oper) (t : Nat → SV) (o : Oper) : Prop :=
  match o.guard with
  | none => True
  | some (j, want) => ∃ s, gslot ops j = some s ∧ t s = SV.b want
def gOff (ops : List Oper) (t : Nat → SV) (o : Oper) : Prop :=
  match o.guard with
  | none => False
  | some (j, want) => ∃ s, gslot ops j = some s ∧ (t s = SV.b (!want) ∨ t s = .tup [])

def keysIn (bs : List (Nat × Blk)) (nm : Nat) (wr : List (Nat × Option Blk)) : Bool :=
  wr.all fun p => (bs.any fun q => Nat.beq q.1 p.1) || (Nat.ble nm p.1 && Nat.blt p.1 (nm + 8))
def dstOK (C : Ctx) (o : Oper) : Bool := match o.dst with | none => true | some d => Nat.blt d C.sz

def D1 (C : Ctx) (ops : List Oper) (nm : Nat) (o : Oper) (σ : St) (fp : FP) (σ' : St) : Prop :=
  dstOK C o = true ∧
  ((gOn ops σ.t o ∧ ∃ bs u wr, OpOK C o nm (opv C σ.t) bs (fun x y => x = u ∧ y = wr) ∧ (∀ p, p ∈ bs → σ.h p.1 = some p.2) ∧ keysIn bs nm wr = true ∧
      fp = (bs.map (·.1), wr.map (·.1)) ∧ σ' = σ.app o.dst u wr) ∨
   (gOff ops σ.t o ∧ fp = ([], []) ∧ σ' = σ.app o.dst (.tup []) []))

/- which operations stand ahead of which -/
def edgesOf (o : Oper) : List Nat := (o.after.toList.filter (Region.binds .any)).map (·.on)
def reachFrom : List Oper → List (List Nat) → List (List Nat)
  | [], acc => acc
  | o :: l, acc => reachFrom l (acc ++ [(edgesOf o).flatMap fun e => e :: acc.getD e []])
def reach (ops : List Oper) : List (List Nat) := reachFrom ops []
def looksL (ops : List Oper) (o : Oper) : List Nat :=
  (o.op.operands.toList.filterMap fun | .tmp t => some t | _ => none) ++ (match o.guard with | some (g, _) => (gslot ops g).toList | none => [])
def meets (a b : List Nat) : Bool := a.any fun x => b.any (Nat.beq x)
def indepB (ops : List Oper) (x y : Oper) (f g : FP) : Bool :=
  (match x.dst with | some d => !(looksL ops y).any (Nat.beq d) && (match y.dst with | some e => !Nat.beq d e | none => true) | none => true) &&
  (match y.dst with | some d => !(looksL ops x).any (Nat.beq d) | none => true) &&
  !meets f.2 (g.1 ++ g.2) && !meets g.2 f.1
def pairsOK (ops : List Oper) (fps : List FP) (rs : List (List Nat)) (o : Oper) (f : FP) (r : List Nat) : Nat → Bool
  | 0 => true
  | j + 1 => (r.any (Nat.beq j) || (match ops[j]?, fps[j]? with | some p, some g => indepB ops p o g f | _, _ => false)) && pairsOK ops fps rs o f r j
def allOK (ops : List Oper) (fps : List FP) (rs : List (List Nat)) : Nat → Bool
  | 0 => true
  | i + 1 => (match ops[i]?, fps[i]? with | some o, some f => (edgesOf o).all (fun e => Nat.blt e i) && pairsOK ops fps rs o f (rs.getD i []) i | _, _ => false) && allOK ops fps rs i
def fpOK (ops : List Oper) (fps : List FP) : Bool := Nat.beq fps.length ops.length && allOK ops fps (reach ops) ops.length

def chk (ops : List Oper) : Option (List FP) → Prop
  | none => True
  | some l => fpOK ops l = true

/-- The operations one behind the other: 'acc' gathers what each looks at and writes, where the region draws its order. -/
def wops (C : Ctx) (ops0 : List Oper) : Nat → List Oper → St → Option (List FP) → (St → Prop) → Prop
  | _, [], σ, acc, K => chk ops0 acc ∧ K ⟨σ.t, σ.h, σ.nx + 8 * ops0.length⟩
  | i, o :: l, σ, acc, K =>
    (∃ fp σ', D1 C ops0 (σ.nx + 8 * i) o σ fp σ' ∧ wops C ops0 (i + 1) l σ' (acc.map (· ++ [fp])) K) ∨
    (acc = none ∧ dstOK C o = true ∧ gOn ops0 σ.t o ∧ ∃ bs RS, OpOK C o (σ.nx + 8 * i) (opv C σ.t) bs RS ∧ (∀ p, p ∈ bs → σ.h p.1 = some p.2) ∧
      ∀ u wr, RS u wr → wops C ops0 (i + 1) l (σ.app o.dst u wr) none K)

theorem getD_put_same {a : Act} {d : Nat} {v : Value} (h : d < a.tmps.size) : (a.put (some d) v).tmps.getD d undef = v := by
  simp [Act.put, Array.getD, h]
theorem getD_put_other {a : Act} {d k : Nat} {v : Value} (h : k ≠ d) : (a.put (some d) v).tmps.getD k undef = a.tmps.getD k undef := by
  simp only [Act.put]
  rw [Array.getD_eq_getD_getElem?, Array.getD_eq_getD_getElem?, Array.getElem?_setIfInBounds_ne (Ne.symm h)]

theorem SR0.app {C : Ctx} {M M' F : Imm} {pin ρ ρ' : Names} {σ : St} {a : Act} {w w' : World} (hs : SR0 C M F pin ρ σ a w) {o : Oper} (hd : dstOK C o = true) {u : SV} {wr : List (Nat × Option Blk)} {u' : Value}
    (hM : M.le M') (hρ : ρ.le ρ') (hv : VR M' ρ' u u') (hh : HR M' F ρ' (wrH σ.h wr) w') : SR0 C M' F pin ρ' (σ.app o.dst u wr) (a.put o.dst u') w' := by
  refine ⟨fun k => ?_, ?_, ?_, hh, Names.le_trans hs.pn hρ, hs.pm, fun g ρ => (hs.gl g ρ).mono hM (Names.le_refl _)⟩
  · cases ho : o.dst with
    | none => exact (hs.tm k).mono hM hρ
    | some d =>
      have hlt : d < a.tmps.size := by rw [hs.sz]; simpa [dstOK, ho] using hd
      show VR M' ρ' (upd σ.t d u k) _
      rw [upd_eq]
      split
      · next e => subst e; rw [getD_put_same hlt]; exact hv
      · next e => rw [getD_put_other e]; exact (hs.tm k).mono hM hρ
  · cases o.dst <;> simp [Act.put, hs.sz]
  · cases o.dst <;> simp [Act.put, hs.df]

theorem wanted_on {C : Ctx} {M F : Imm} {pin ρ : Names} {σ : St} {a : Act} {w : World} (hs : SR0 C M F pin ρ σ a w) {ops : Array Oper} {o : Oper} (h : gOn ops.toList σ.t o) : Region.wanted o (yielded ops a.tmps) = true := by
  unfold gOn at h
  unfold Region.wanted
  cases hg : o.guard with
  | none => rfl
  | some p =>
    obtain ⟨j, want⟩ := p
    simp only [hg] at h ⊢
    obtain ⟨s, h1, h2⟩ := h
    have hv := hs.tm s
    rw [h2] at hv
    have hv := hv.bool
    have hlt : s < a.tmps.size := by
      rcases Nat.lt_or_ge s a.tmps.size with h | h
      · exact h
      · simp [Array.getD, Nat.not_lt.2 h, undef] at hv
    have : a.tmps[s]? = some (.bool want) := by
      rw [Array.getD_eq_getD_getElem?, Array.getElem?_eq_getElem hlt] at hv
      rw [Array.getElem?_eq_getElem hlt]
      simpa using hv
    have h1' : (ops[j]?).bind (·.dst) = some s := by simpa [gslot] using h1
    simp [yielded, h1', this]
theorem wanted_off {C : Ctx} {M F : Imm} {pin ρ : Names} {σ : St} {a : Act} {w : World} (hs : SR0 C M F pin ρ σ a w) {ops : Array Oper} {o : Oper} (h : gOff ops.toList σ.t o) : Region.wanted o (yielded ops a.tmps) = false := by
  unfold gOff at h
  unfold Region.wanted
  cases hg : o.guard with
  | none => simp [hg] at h
  | some p =>
    obtain ⟨j, want⟩ := p
    simp only [hg] at h ⊢
    obtain ⟨s, h1, h2⟩ := h
    have hv := hs.tm s
    have h1' : (ops[j]?).bind (·.dst) = some s := by simpa [gslot] using h1
    rcases h2 with h2 | h2
    · rw [h2] at hv
      have hv := hv.bool
      have hlt : s < a.tmps.size := by
        rcases Nat.lt_or_ge s a.tmps.size with h | h
        · exact h
        · simp [Array.getD, Nat.not_lt.2 h, undef] at hv
      have : a.tmps[s]? = some (.bool !want) := by
        rw [Array.getD_eq_getD_getElem?, Array.getElem?_eq_getElem hlt] at hv
        rw [Array.getElem?_eq_getElem hlt]
        simpa using hv
      simp [yielded, h1', this]
    · rw [h2] at hv
      cases e : a.tmps[s]? with
      | none => simp [yielded, h1', e]
      | some q =>
        have : a.tmps.getD s undef = q := by rw [Array.getD_eq_getD_getElem?, e]; rfl
        rw [this] at hv
        cases hv; simp [yielded, h1', e]

theorem VR.skip {M : Imm} {ρ : Names} : VR M ρ (.tup []) undef := .tup [] #[] (fun _ => undef) rfl (fun i hi => by simp at hi) (fun i x hx => by simp at hx)

theorem wops_text {C : Ctx} {ops : Array Oper} {K : St → Prop} {Q : Go.Exit → Act → World → Prop} {M0 F : Imm} {pin : Names} {w0 : World}
    (hfin : ∀ M' ρ' σ' a' w', M0.le M' → SR C M' F pin ρ' σ' a' w' → Same w0 w' → K σ' → Q .normal a' w') :
    ∀ (l : List Oper) (i : Nat) (σ : St) (M : Imm) (ρ : Names) (a : Act) (w : World), i + l.length = ops.toList.length → M0.le M → Same w0 w → SR0 C M F pin ρ σ a w → (∀ n, σ.nx + 8 * i ≤ n → ρ n = none) →
      wops C ops.toList i l σ none K → wpList C.P ops Q l a w := by
  intro l
  induction l with
  | nil =>
    intro i σ M ρ a w hi hM hw hs hf h
    obtain ⟨_, hK⟩ := h
    refine hfin M ρ ⟨σ.t, σ.h, σ.nx + 8 * ops.toList.length⟩ a w hM ⟨⟨hs.tm, hs.sz, hs.df, hs.hr, hs.pn, hs.pm, hs.gl⟩, ?_⟩ hw hK
    intro n hn
    simp only [List.length_nil, Nat.add_zero] at hi
    rw [← hi] at hn
    exact hf n hn
  | cons o l ih =>
    intro i σ M ρ a w hi hM hw hs hf h
    have hi' : (i + 1) + l.length = ops.toList.length := by simp only [List.length_cons] at hi; omega
    have on : ∀ (hd : dstOK C o = true) (hg : gOn ops.toList σ.t o) bs RS, OpOK C o (σ.nx + 8 * i) (opv C σ.t) bs RS → (∀ p, p ∈ bs → σ.h p.1 = some p.2) →
        (∀ u wr, RS u wr → wops C ops.toList (i + 1) l (σ.app o.dst u wr) none K) → wpList C.P ops Q (o :: l) a w := by
      intro hd hg bs RS hok hbs hnext
      unfold wpList
      rw [wanted_on hs hg]
      simp only [if_true]
      refine .inl (hok M F ρ a σ.h w (fun x _ => opv_rel hs x) hs.gl hs.hr hbs (fun n h1 h2 => hf n h1) _ _ ?_)
      intro M' ρ' u wr u' w' h1 h2 h3 h4 h5 h6 h7
      refine ih (i + 1) _ M' ρ' _ w' hi' (Imm.le_trans hM h1) (hw.trans h7) (hs.app hd h1 h2 h5 h6) ?_ (hnext u wr h4)
      intro n hn
      have hn' : σ.nx + 8 * (i + 1) ≤ n := hn
      rw [h3 n (.inr (by omega))]
      exact hf n (by omega)
    unfold wops at h
    rcases h with ⟨fp, σ', ⟨hd, hD⟩, hrest⟩ | ⟨_, hd, hg, bs, RS, hok, hbs, hnext⟩
    · rcases hD with ⟨hg, bs, u, wr, hok, hbs, _, _, rfl⟩ | ⟨hg, _, rfl⟩
      · exact on hd hg bs _ hok hbs (fun u' wr' ⟨e1, e2⟩ => by subst e1; subst e2; exact hrest)
      · unfold wpList
        rw [wanted_off hs hg]
        simp only [Bool.false_eq_true, if_false]
        refine ih (i + 1) _ M ρ _ w hi' hM hw (hs.app (wr := []) hd (Imm.le_refl _) (Names.le_refl _) VR.skip hs.hr) ?_ hrest
        intro n hn
        have hn' : σ.nx + 8 * (i + 1) ≤ n := hn
        exact hf n (by omega)
    · exact on hd hg bs RS hok hbs hnext

theorem W_region {C : Ctx} {id : Nat} {ops : Array Oper} {Q : Exit → St → Prop} {σ : St} (h : wops C ops.toList 0 ops.toList σ none (fun σ' => Q .normal σ')) : W C (.region id ops false) Q σ := by
  intro M F pin ρ a w hs
  refine wp_region_list (wops_text (K := fun σ' => Q .normal σ') (M0 := M) (F := F) (pin := pin) (w0 := w) ?_ ops.toList 0 σ M ρ a w (by simp) (Imm.le_refl _) (.refl _) hs.toSR0 (fun n hn => hs.fr n (by omega)) h)
  intro M' ρ' σ' a' w' h1 h2 h3 h4
  exact ⟨M', ρ', σ', h1, h2, h3, h4⟩

/- a region that draws its order -/
theorem wrH_get (h : Heap) : ∀ (wr : List (Nat × Option Blk)) (n : Nat), (∀ p, p ∈ wr → p.1 ≠ n) → wrH h wr n = h n
  | [], n, _ => rfl
  | (m, b) :: r, n, hn => by
    rw [wrH, wrH_get (upd h m b) r n fun p hp => hn p (List.mem_cons_of_mem _ hp), upd_other]
    exact (hn (m, b) (List.mem_cons_self ..)).symm
theorem wrH_upd (h : Heap) : ∀ (wr : List (Nat × Option Blk)) (n : Nat) (b : Option Blk), (∀ p, p ∈ wr → p.1 ≠ n) → wrH (upd h n b) wr = upd (wrH h wr) n b
  | [], n, b, _ => rfl
  | (m, c) :: r, n, b, hn => by
    rw [wrH, wrH, ← wrH_upd (upd h m c) r n b fun p hp => hn p (List.mem_cons_of_mem _ hp), upd_comm _ _ _ _ _ (hn (m, c) (List.mem_cons_self ..)).symm]
theorem wrH_comm (h : Heap) : ∀ (w1 w2 : List (Nat × Option Blk)), (∀ p, p ∈ w1 → ∀ q, q ∈ w2 → q.1 ≠ p.1) → wrH (wrH h w1) w2 = wrH (wrH h w2) w1
  | [], w2, _ => rfl
  | (m, b) :: r, w2, hd => by
    rw [wrH, wrH, wrH_comm (upd h m b) r w2 fun p hp => hd p (List.mem_cons_of_mem _ hp), wrH_upd h w2 m b (hd (m, b) (List.mem_cons_self ..))]

theorem meets_false {a b : List Nat} (h : (!meets a b) = true) : ∀ x, x ∈ a → x ∉ b := by
  intro x hx hb
  simp only [meets, Bool.not_eq_true'] at h
  have : (a.any fun x => b.any (Nat.beq x)) = true := by
    rw [List.any_eq_true]
    exact ⟨x, hx, by rw [List.any_eq_true]; exact ⟨x, hb, by simp⟩⟩
  rw [this] at h; cases h
theorem anyBeq_false {l : List Nat} {d : Nat} (h : (!l.any (Nat.beq d)) = true) : d ∉ l := by
  intro hm
  have : l.any (Nat.beq d) = true := by rw [List.any_eq_true]; exact ⟨d, hm, by simp⟩
  rw [this] at h; cases h

theorem indepB_spec {ops : List Oper} {x y : Oper} {f g : FP} (h : indepB ops x y f g = true) :
    (∀ d, x.dst = some d → d ∉ looksL ops y) ∧ (∀ d, x.dst = some d → y.dst ≠ some d) ∧ (∀ d, y.dst = some d → d ∉ looksL ops x) ∧
    (∀ n, n ∈ f.2 → n ∉ g.1 ∧ n ∉ g.2) ∧ (∀ n, n ∈ g.2 → n ∉ f.1) := by
  simp only [indepB, Bool.and_eq_true] at h
  obtain ⟨⟨⟨h1, h2⟩, h3⟩, h4⟩ := h
  refine ⟨?_, ?_, ?_, ?_, ?_⟩
  · intro d hd; rw [hd] at h1; simp only [Bool.and_eq_true] at h1; exact anyBeq_false h1.1
  · intro d hd he; rw [hd] at h1; rw [he] at h1; simp at h1
  · intro d hd; rw [hd] at h2; exact anyBeq_false h2
  · intro n hn
    have := meets_false h3 n hn
    exact ⟨fun e => this (List.mem_append_left _ e), fun e => this (List.mem_append_right _ e)⟩
  · intro n hn; exact meets_false h4 n hn

theorem opv_app {C : Ctx} {ops : List Oper} {o x : Oper} {t : Nat → SV} {u : SV} (hx : ∀ d, x.dst = some d → d ∉ looksL ops o) :
    ∀ y, y ∈ o.op.operands → opv C (match x.dst with | some d => upd t d u | none => t) y = opv C t y := by
  intro y hy
  cases hd : x.dst with
  | none => rfl
  | some d =>
    cases y with
    | tmp k =>
      show upd t d u k = t k
      refine upd_other _ _ _ _ ?_
      rintro rfl
      exact hx _ hd (List.mem_append_left _ (List.mem_filterMap.2 ⟨.tmp k, Array.mem_toList_iff.2 hy, rfl⟩))
    | const v => cases v <;> first | rfl | (rename_i a l c; cases a <;> cases l <;> cases c <;> rfl)
    | global g => rfl
    | func f => rfl
theorem guard_app {ops : List Oper} {o x : Oper} {t : Nat → SV} {u : SV} (hx : ∀ d, x.dst = some d → d ∉ looksL ops o) :
    ∀ j want s, o.guard = some (j, want) → gslot ops j = some s → (match x.dst with | some d => upd t d u | none => t) s = t s := by
  intro j want s hg hs
  cases hd : x.dst with
  | none => rfl
  | some d =>
    show upd t d u s = t s
    refine upd_other _ _ _ _ ?_
    rintro rfl
    exact hx _ hd (List.mem_append_right _ (by rw [hg]; simp [hs]))

theorem D1_same {C : Ctx} {ops : List Oper} {nm : Nat} {o : Oper} {σ τ : St} {fp : FP} {σ' : St} (h : D1 C ops nm o σ fp σ')
    (hv : ∀ y, y ∈ o.op.operands → opv C τ.t y = opv C σ.t y) (hg : ∀ j want s, o.guard = some (j, want) → gslot ops j = some s → τ.t s = σ.t s) (hh : ∀ n, n ∈ fp.1 → τ.h n = σ.h n) :
    ∃ u wr, wr.map (·.1) = fp.2 ∧ σ' = σ.app o.dst u wr ∧ D1 C ops nm o τ fp (τ.app o.dst u wr) := by
  obtain ⟨hd, h⟩ := h
  rcases h with ⟨hgo, bs, u, wr, hok, hbs, hk, rfl, rfl⟩ | ⟨hgo, rfl, rfl⟩
  · refine ⟨u, wr, rfl, rfl, hd, .inl ⟨?_, bs, u, wr, ?_, ?_, hk, rfl, rfl⟩⟩
    · unfold gOn at *
      cases e : o.guard with
      | none => trivial
      | some p => obtain ⟨j, want⟩ := p; rw [e] at hgo; obtain ⟨s, h1, h2⟩ := hgo; exact ⟨s, h1, (hg j want s e h1).trans h2⟩
    · intro M F ρ a h w hx
      exact hok M F ρ a h w fun y hy => by rw [← hv y hy]; exact hx y hy
    · intro p hp
      rw [hh p.1 (List.mem_map.2 ⟨p, hp, rfl⟩)]; exact hbs p hp
  · refine ⟨.tup [], [], rfl, rfl, hd, .inr ⟨?_, rfl, rfl⟩⟩
    unfold gOff at *
    cases e : o.guard with
    | none => rw [e] at hgo; exact hgo
    | some p => obtain ⟨j, want⟩ := p; rw [e] at hgo; obtain ⟨s, h1, h2⟩ := hgo; exact ⟨s, h1, (match h2 with | .inl h3 => .inl ((hg j want s e h1).trans h3) | .inr h3 => .inr ((hg j want s e h1).trans h3))⟩

theorem app_comm (σ : St) {x y : Option Tmp} {u v : SV} {w1 w2 : List (Nat × Option Blk)} (hd : ∀ d, x = some d → y ≠ some d) (hw : ∀ n, n ∈ w1.map (·.1) → n ∉ w2.map (·.1)) :
    (σ.app x u w1).app y v w2 = (σ.app y v w2).app x u w1 := by
  have e : wrH (wrH σ.h w1) w2 = wrH (wrH σ.h w2) w1 := wrH_comm _ _ _ fun p hp q hq hpq => hw p.1 (List.mem_map.2 ⟨p, hp, rfl⟩) (List.mem_map.2 ⟨q, hq, hpq⟩)
  unfold St.app
  simp only [e]
  cases x with
  | none => cases y <;> rfl
  | some d => cases y with
    | none => rfl
    | some e => simp only [upd_comm σ.t d e u v (fun h => hd d rfl (h ▸ rfl))]

/-- Two operations that do not touch each other may change places. -/
theorem D1_swap {C : Ctx} {ops : List Oper} {n1 n2 : Nat} {x y : Oper} {σ σ1 σ2 : St} {f g : FP} (hi : indepB ops x y f g = true)
    (h1 : D1 C ops n1 x σ f σ1) (h2 : D1 C ops n2 y σ1 g σ2) : ∃ τ, D1 C ops n2 y σ g τ ∧ D1 C ops n1 x τ f σ2 := by
  obtain ⟨i1, i2, i3, i4, i5⟩ := indepB_spec hi
  obtain ⟨u, wr, hw, rfl, _⟩ := D1_same (τ := σ) h1 (fun _ _ => rfl) (fun _ _ _ _ _ => rfl) (fun _ _ => rfl)
  obtain ⟨v, wr2, hw2, rfl, k2⟩ := D1_same (τ := σ) h2 (fun z hz => (opv_app (t := σ.t) i1 z hz).symm) (fun j want s hg hs => (guard_app (t := σ.t) (u := u) i1 j want s hg hs).symm)
    (fun n hn => (wrH_get σ.h wr n fun p hp e => (i4 p.1 (hw ▸ List.mem_map.2 ⟨p, hp, rfl⟩)).1 (e ▸ hn)).symm)
  refine ⟨_, k2, ?_⟩
  obtain ⟨u', wr', hw', he, k1⟩ := D1_same (τ := σ.app y.dst v wr2) h1 (fun z hz => opv_app (t := σ.t) i3 z hz) (fun j want s hg hs => guard_app (t := σ.t) (u := v) i3 j want s hg hs)
    (fun n hn => wrH_get σ.h wr2 n fun p hp e => i5 p.1 (hw2 ▸ List.mem_map.2 ⟨p, hp, rfl⟩) (e ▸ hn))
  have e2 : (σ.app x.dst u wr).app y.dst v wr2 = (σ.app x.dst u' wr').app y.dst v wr2 := by rw [he]
  rw [e2, app_comm σ (fun d hd he => i2 d hd he) (by rw [hw', hw2]; exact fun n hn => (i4 n hn).2)]
  exact k1

/-- The operations of a list of places, each with the footprint that 'fps' tells. -/
def Runs (C : Ctx) (ops : List Oper) (fps : List FP) (nx : Nat) : List Nat → St → St → Prop
  | [], σ, τ => σ = τ
  | i :: l, σ, τ => ∃ o f σ', ops[i]? = some o ∧ fps[i]? = some f ∧ D1 C ops (nx + 8 * i) o σ f σ' ∧ Runs C ops fps nx l σ' τ

theorem Runs_front {C : Ctx} {ops : List Oper} {fps : List FP} {nx i : Nat} {oi : Oper} {fi : FP} (ho : ops[i]? = some oi) (hf : fps[i]? = some fi) :
    ∀ (A B : List Nat) (σ τ : St), (∀ j, j ∈ A → ∀ o f, ops[j]? = some o → fps[j]? = some f → indepB ops o oi f fi = true) → Runs C ops fps nx (A ++ i :: B) σ τ →
      Runs C ops fps nx (i :: (A ++ B)) σ τ
  | [], B, σ, τ, _, h => h
  | j :: A, B, σ, τ, hA, h => by
    obtain ⟨o, f, σ1, h1, h2, h3, h4⟩ := h
    obtain ⟨o', f', σ2, k1, k2, k3, k4⟩ := Runs_front ho hf A B σ1 τ (fun j hj => hA j (List.mem_cons_of_mem _ hj)) h4
    rw [ho] at k1; rw [hf] at k2
    obtain rfl := Option.some.inj k1
    obtain rfl := Option.some.inj k2
    obtain ⟨τ1, t1, t2⟩ := D1_swap (hA j (List.mem_cons_self ..) o f h1 h2) h3 k3
    exact ⟨oi, fi, τ1, ho, hf, t1, o, f, σ2, h1, h2, t2, k4⟩

theorem reachFrom_get : ∀ (l : List Oper) (acc : List (List Nat)) (i : Nat), (∀ o, l[i]? = some o → (reachFrom l acc).getD (acc.length + i) [] = (edgesOf o).flatMap fun e => e :: (if e < acc.length + i then (reachFrom l acc).getD e [] else (reachFrom (l.take i) acc).getD e [])) := by
  have keep : ∀ (l : List Oper) (acc : List (List Nat)) (k : Nat), k < acc.length → (reachFrom l acc).getD k [] = acc.getD k [] := by
    intro l
    induction l with
    | nil => intro acc k hk; rfl
    | cons o l ih =>
      intro acc k hk
      rw [reachFrom, ih _ k (by simp; omega)]
      simp [List.getD_eq_getElem?_getD, List.getElem?_append_left hk]
  have len : ∀ (l : List Oper) (acc : List (List Nat)), (reachFrom l acc).length = acc.length + l.length := by
    intro l
    induction l with
    | nil => intro acc; rfl
    | cons o l ih => intro acc; rw [reachFrom, ih]; simp; omega
  intro l
  induction l with
  | nil => intro acc i o h; simp at h
  | cons p l ih =>
    intro acc i o h
    cases i with
    | zero =>
      simp at h; subst h
      rw [reachFrom, Nat.add_zero, keep _ _ _ (by simp)]
      simp only [List.getD_eq_getElem?_getD, List.getElem?_concat_length, Option.getD_some]
      congr 1
      funext e
      congr 1
      split
      · next he =>
        have := keep (p :: l) acc e he
        rw [reachFrom] at this
        simp only [List.getD_eq_getElem?_getD] at this
        rw [this]
      · next he =>
        simp only [List.take_zero, reachFrom]
    | succ i =>
      rw [reachFrom]
      have := ih (acc ++ [(edgesOf p).flatMap fun e => e :: acc.getD e []]) i o (by simpa using h)
      simp only [List.length_append, List.length_singleton] at this
      rw [show acc.length + (i + 1) = acc.length + 1 + i by omega, this]
      rfl

theorem allOK_get {ops : List Oper} {fps : List FP} {rs : List (List Nat)} : ∀ n, allOK ops fps rs n = true → ∀ i, i < n → ∃ o f, ops[i]? = some o ∧ fps[i]? = some f ∧ (∀ e, e ∈ edgesOf o → e < i) ∧ pairsOK ops fps rs o f (rs.getD i []) i = true
  | 0, _, i, hi => absurd hi (Nat.not_lt_zero _)
  | n + 1, h, i, hi => by
    simp only [allOK, Bool.and_eq_true] at h
    by_cases e : i = n
    · subst e
      cases ho : ops[i]? with
      | none => simp [ho] at h
      | some o => cases hf : fps[i]? with
        | none => simp [ho, hf] at h
        | some f =>
          simp only [ho, hf, Bool.and_eq_true, List.all_eq_true] at h
          exact ⟨o, f, rfl, rfl, fun e he => by simpa using h.1.1 e he, h.1.2⟩
    · exact allOK_get n h.2 i (by omega)
theorem pairsOK_get {ops : List Oper} {fps : List FP} {rs : List (List Nat)} {o : Oper} {f : FP} {r : List Nat} : ∀ n, pairsOK ops fps rs o f r n = true → ∀ j, j < n → j ∈ r ∨ ∀ p g, ops[j]? = some p → fps[j]? = some g → indepB ops p o g f = true
  | 0, _, j, hj => absurd hj (Nat.not_lt_zero _)
  | n + 1, h, j, hj => by
    simp only [pairsOK, Bool.and_eq_true, Bool.or_eq_true] at h
    by_cases e : j = n
    · subst e
      rcases h.1 with h1 | h1
      · rw [List.any_eq_true] at h1
        obtain ⟨x, hx, hb⟩ := h1
        have := Nat.eq_of_beq_eq_true hb
        exact .inl (this ▸ hx)
      · refine .inr fun p g hp hg => ?_
        simpa [hp, hg] using h1
    · exact pairsOK_get n h.2 j (by omega)

theorem reach_listed {ops : List Oper} {L : Nat → Prop} (hback : ∀ i o, ops[i]? = some o → ∀ e, e ∈ edgesOf o → e < i)
    (hdown : ∀ i o, ops[i]? = some o → L i → ∀ e, e ∈ edgesOf o → L e) : ∀ i o, ops[i]? = some o → (∀ e, e ∈ edgesOf o → L e) → ∀ j, j ∈ (reach ops).getD i [] → L j := by
  intro i
  induction i using Nat.strongRecOn with
  | _ i ih =>
    intro o ho hL j hj
    have := reachFrom_get ops [] i o ho
    simp only [List.length_nil, Nat.zero_add] at this
    rw [reach, this] at hj
    rw [List.mem_flatMap] at hj
    obtain ⟨e, he, hj⟩ := hj
    have hlt := hback i o ho e he
    rw [if_pos hlt] at hj
    rcases List.mem_cons.1 hj with rfl | hj
    · exact hL _ he
    · have hi : i < ops.length := (List.getElem?_eq_some_iff.1 ho).1
      have hoe : ops[e]? = some (ops[e]'(by omega)) := List.getElem?_eq_getElem _
      exact ih e hlt _ hoe (hdown e _ hoe (hL e he)) j hj

theorem wops_runs {C : Ctx} {ops : List Oper} {K : St → Prop} : ∀ (l : List Oper) (i : Nat) (σ : St) (acc : List FP), acc.length = i → (∀ j, l[j]? = ops[i + j]?) →
    wops C ops i l σ (some acc) K → ∃ fps τ, fps.take i = acc ∧ fpOK ops fps = true ∧ Runs C ops fps σ.nx (List.range' i l.length) σ τ ∧ τ.nx = σ.nx ∧ K ⟨τ.t, τ.h, τ.nx + 8 * ops.length⟩ := by
  intro l
  induction l with
  | nil =>
    intro i σ acc hi hl h
    obtain ⟨hc, hK⟩ := h
    exact ⟨acc, σ, by rw [← hi, List.take_length], hc, rfl, rfl, hK⟩
  | cons o l ih =>
    intro i σ acc hi hl h
    unfold wops at h
    rcases h with ⟨fp, σ', hD, hrest⟩ | ⟨h0, _⟩
    · have hnx : σ'.nx = σ.nx := by
        obtain ⟨_, h⟩ := hD
        rcases h with ⟨_, _, _, _, _, _, _, _, rfl⟩ | ⟨_, _, rfl⟩ <;> rfl
      obtain ⟨fps, τ, h1, h2, h3, h4, h5⟩ := ih (i + 1) σ' (acc ++ [fp]) (by simp [hi]) (fun j => by have := hl (j + 1); simp at this; rw [this]; congr 1; omega) hrest
      have hlen : i < fps.length := by
        have := congrArg List.length h1
        simp at this; omega
      have htake : fps.take i = acc := by
        have := congrArg (List.take i) h1
        rw [List.take_take, Nat.min_eq_left (by omega), ← hi, List.take_left] at this
        rw [← hi]; exact this
      have hget : fps[i]? = some fp := by
        have := congrArg (fun l => l[i]?) h1
        simp only [List.getElem?_take] at this
        rw [if_pos (by omega), List.getElem?_append_right (by omega)] at this
        simpa [hi] using this
      refine ⟨fps, τ, htake, h2, ?_, h4.trans hnx, h5⟩
      rw [List.length_cons, List.range'_succ]
      refine ⟨o, fp, σ', ?_, hget, hD, ?_⟩
      · have := hl 0; simpa using this.symm
      · rw [hnx] at h3; exact h3
    · cases h0

theorem ready_iff {ops : Array Oper} {listed : Array Bool} {i : Nat} : i ∈ Region.ready .any ops listed ↔ i < ops.size ∧ listed.getD i true = false ∧ ∃ o, ops[i]? = some o ∧ ∀ e, e ∈ edgesOf o → listed.getD e false = true := by
  unfold Region.ready
  rw [List.mem_filter, List.mem_range]
  constructor
  · rintro ⟨hi, h⟩
    simp only [Bool.and_eq_true, Bool.not_eq_true'] at h
    obtain ⟨h1, h2⟩ := h
    have ho : ops[i]? = some ops[i] := Array.getElem?_eq_getElem hi
    refine ⟨hi, h1, ops[i], ho, ?_⟩
    intro e he
    simp only [ho, Option.map_some, Option.getD_some] at h2
    rw [Array.all_eq_true'] at h2
    simp only [edgesOf, List.mem_map, List.mem_filter, Array.mem_toList_iff] at he
    obtain ⟨x, ⟨hx, hb⟩, rfl⟩ := he
    have := h2 x hx
    simpa [hb] using this
  · rintro ⟨hi, h1, o, ho, h2⟩
    refine ⟨hi, ?_⟩
    simp only [h1, Bool.not_false, Bool.true_and, ho, Option.map_some, Option.getD_some]
    rw [Array.all_eq_true']
    intro x hx
    cases hb : Region.binds .any x with
    | false => rfl
    | true =>
      have := h2 x.on (List.mem_map.2 ⟨x, List.mem_filter.2 ⟨Array.mem_toList_iff.2 hx, hb⟩, rfl⟩)
      simp [this]

theorem split_at_mem {l : List Nat} {i : Nat} (h : i ∈ l) : ∃ A B, l = A ++ i :: B ∧ i ∉ A := by
  induction l with
  | nil => cases h
  | cons x l ih =>
    by_cases e : x = i
    · exact ⟨[], l, by simp [e], by simp⟩
    · have : i ∈ l := by rcases List.mem_cons.1 h with h | h; exact absurd h.symm e; exact h
      obtain ⟨A, B, rfl, hA⟩ := ih this
      exact ⟨x :: A, B, rfl, by simp [hA, Ne.symm e]⟩

theorem wops_any {C : Ctx} {ops : Array Oper} {fps : List FP} {K : St → Prop} {Q : Go.Exit → Act → World → Prop} {M0 F : Imm} {pin : Names} {w0 : World} {nx : Nat}
    (hok : fpOK ops.toList fps = true)
    (hfin : ∀ M' ρ' σ' a' w', M0.le M' → SR C M' F pin ρ' σ' a' w' → Same w0 w' → K σ' → Q .normal a' w') :
    ∀ (fuel : Nat) (l : List Nat) (listed : Array Bool) (σ τ : St) (M : Imm) (ρ : Names) (a : Act) (w : World), l.length = fuel → l.Pairwise (· < ·) → listed.size = ops.size →
      (∀ i, i ∈ l ↔ i < ops.size ∧ listed.getD i true = false) →
      (∀ (i : Nat) (o : Oper), ops[i]? = some o → listed.getD i false = true → ∀ e, e ∈ edgesOf o → listed.getD e false = true) →
      M0.le M → Same w0 w → SR0 C M F pin ρ σ a w → σ.nx = nx → (∀ i, i ∈ l → ∀ n, nx + 8 * i ≤ n → n < nx + 8 * i + 8 → ρ n = none) → (∀ n, nx + 8 * ops.size ≤ n → ρ n = none) →
      Runs C ops.toList fps nx l σ τ → K ⟨τ.t, τ.h, nx + 8 * ops.toList.length⟩ → wpAny C.P .any ops Q fuel listed a w := by
  simp only [fpOK, Bool.and_eq_true] at hok
  obtain ⟨_, hall⟩ := hok
  have hget := allOK_get _ hall
  have hback : ∀ (i : Nat) (o : Oper), ops.toList[i]? = some o → ∀ e, e ∈ edgesOf o → e < i := by
    intro i o ho e he
    obtain ⟨o', f, h1, _, h2, _⟩ := hget i (List.getElem?_eq_some_iff.1 ho).1
    rw [ho] at h1; obtain rfl := Option.some.inj h1
    exact h2 e he
  have noready : ∀ (l : List Nat) (listed : Array Bool), l.Pairwise (· < ·) → listed.size = ops.size → (∀ i, i ∈ l ↔ i < ops.size ∧ listed.getD i true = false) → Region.ready .any ops listed = [] → l = [] := by
    intro l listed hp hsz hl hr
    cases l with
    | nil => rfl
    | cons i l =>
      exfalso
      obtain ⟨hi, hli⟩ := (hl i).1 (List.mem_cons_self ..)
      have : i ∈ Region.ready .any ops listed := by
        refine ready_iff.2 ⟨hi, hli, ops[i], Array.getElem?_eq_getElem hi, ?_⟩
        intro e he
        have hlt := hback i ops[i] (by simp [hi]) e he
        cases hb : listed.getD e true with
        | true =>
          have he' : e < listed.size := by omega
          simpa [Array.getD, he'] using hb
        | false =>
          have hm : e ∈ i :: l := (hl e).2 ⟨by omega, hb⟩
          rcases List.mem_cons.1 hm with h | h
          · omega
          · have := (List.pairwise_cons.1 hp).1 e h; omega
      rw [hr] at this; cases this
  have finish : ∀ (listed : Array Bool) (σ τ : St) (M : Imm) (ρ : Names) (a : Act) (w : World), M0.le M → Same w0 w → SR0 C M F pin ρ σ a w → σ.nx = nx → (∀ n, nx ≤ n → n < nx + 8 * ops.size → True) →
      (∀ n, nx + 8 * ops.size ≤ n → ρ n = none) → σ = τ → K ⟨τ.t, τ.h, nx + 8 * ops.toList.length⟩ → Q .normal a w := by
    intro listed σ τ M ρ a w hM hw hs hn _ hf e hK
    subst e
    refine hfin M ρ ⟨σ.t, σ.h, nx + 8 * ops.toList.length⟩ a w hM ⟨⟨hs.tm, hs.sz, hs.df, hs.hr, hs.pn, hs.pm, hs.gl⟩, ?_⟩ hw hK
    intro n hn'
    exact hf n (by simpa using hn')
  intro fuel
  induction fuel with
  | zero =>
    intro l listed σ τ M ρ a w hlen hp hsz hl hdown hM hw hs hn hf1 hf2 hr hK
    have hnil : l = [] := List.length_eq_zero_iff.1 hlen
    subst hnil
    refine ⟨?_, finish listed σ τ M ρ a w hM hw hs hn (fun _ _ _ => trivial) hf2 hr hK⟩
    cases hrd : Region.ready .any ops listed with
    | nil => rfl
    | cons i r =>
      exfalso
      have : i ∈ Region.ready .any ops listed := by rw [hrd]; exact List.mem_cons_self ..
      obtain ⟨hi, hli, _⟩ := ready_iff.1 this
      have := (hl i).2 ⟨hi, hli⟩
      cases this
  | succ fuel ih =>
    intro l listed σ τ M ρ a w hlen hp hsz hl hdown hM hw hs hn hf1 hf2 hr hK
    refine ⟨fun hrd => ?_, ?_⟩
    · have := noready l listed hp hsz hl hrd
      subst this
      simp at hlen
    · intro i hi
      obtain ⟨hlt, hli, o, ho, hpre⟩ := ready_iff.1 hi
      have him : i ∈ l := (hl i).2 ⟨hlt, hli⟩
      obtain ⟨A, B, rfl, hA⟩ := split_at_mem him
      have hoL : ops.toList[i]? = some o := by simpa using ho
      obtain ⟨o', f, h1, hfi, h3, h4⟩ := hget i (by simpa using hlt)
      rw [hoL] at h1; obtain rfl := Option.some.inj h1
      have hnot : ∀ j, j ∈ A → j ∉ (reach ops.toList).getD i [] := by
        intro j hj hjr
        have hL := reach_listed (ops := ops.toList) (L := fun k => listed.getD k false = true) hback (fun k o hk => hdown k o (by simpa using hk)) i o hoL hpre j hjr
        have := ((hl j).1 (List.mem_append_left _ hj)).2
        have hjs : j < listed.size := by rw [hsz]; exact ((hl j).1 (List.mem_append_left _ hj)).1
        simp [Array.getD, hjs] at this hL
        rw [this] at hL; cases hL
      have hlt2 : ∀ j, j ∈ A → j < i := by
        intro j hj
        exact (List.pairwise_append.1 hp).2.2 j hj i (List.mem_cons_self ..)
      have hfront := Runs_front (C := C) (nx := nx) hoL hfi A B σ τ (fun j hj p g hp2 hg => (pairsOK_get _ h4 j (hlt2 j hj)).resolve_left (hnot j hj) p g hp2 hg) hr
      obtain ⟨o2, f2, σ', k1, k2, hD, hrest⟩ := hfront
      rw [hoL] at k1; obtain rfl := Option.some.inj k1
      rw [hfi] at k2; obtain rfl := Option.some.inj k2
      have hl' : (A ++ B).length = fuel := by simp at hlen ⊢; omega
      have hp' : (A ++ B).Pairwise (· < ·) := by
        rw [List.pairwise_append] at hp ⊢
        refine ⟨hp.1, (List.pairwise_cons.1 hp.2.1).2, fun x hx y hy => hp.2.2 x hx y (List.mem_cons_of_mem _ hy)⟩
      have hiB : i ∉ B := by
        intro hb
        have := (List.pairwise_cons.1 (List.pairwise_append.1 hp).2.1).1 i hb
        omega
      have hmem : ∀ j, j ∈ A ++ B ↔ j < ops.size ∧ (listed.setIfInBounds i true).getD j true = false := by
        intro j
        by_cases e : j = i
        · subst e
          constructor
          · intro h; rcases List.mem_append.1 h with h | h
            · exact absurd h hA
            · exact absurd h hiB
          · rintro ⟨_, h⟩; simp [Array.getD, hsz, hlt] at h
        · have : (listed.setIfInBounds i true).getD j true = listed.getD j true := by
            rw [Array.getD_eq_getD_getElem?, Array.getD_eq_getD_getElem?, Array.getElem?_setIfInBounds_ne (Ne.symm e)]
          rw [this, ← hl j]
          simp [e]
      have hdown' : ∀ (k : Nat) (p : Oper), ops[k]? = some p → (listed.setIfInBounds i true).getD k false = true → ∀ e, e ∈ edgesOf p → (listed.setIfInBounds i true).getD e false = true := by
        have keep : ∀ e, listed.getD e false = true → (listed.setIfInBounds i true).getD e false = true := by
          intro e he
          by_cases h : e = i
          · subst h; simp [Array.getD, hsz, hlt]
          · rw [Array.getD_eq_getD_getElem?, Array.getElem?_setIfInBounds_ne (Ne.symm h), ← Array.getD_eq_getD_getElem?]; exact he
        intro k p hk hlk e he
        by_cases h : k = i
        · subst h
          rw [ho] at hk; obtain rfl := Option.some.inj hk
          exact keep e (hpre e he)
        · refine keep e (hdown k p hk ?_ e he)
          rw [Array.getD_eq_getD_getElem?, Array.getElem?_setIfInBounds_ne (Ne.symm h), ← Array.getD_eq_getD_getElem?] at hlk
          exact hlk
      unfold wpOp
      rw [ho]
      dsimp only
      obtain ⟨hd, hD⟩ := hD
      rcases hD with ⟨hg, bs, u, wr, hokk, hbs, _, _, rfl⟩ | ⟨hg, _, rfl⟩
      · rw [wanted_on hs hg]
        simp only [if_true]
        refine .inl (hokk M F ρ a σ.h w (fun x _ => opv_rel hs x) hs.gl hs.hr hbs (fun n g1 g2 => hf1 i him n g1 g2) _ _ ?_)
        rintro M' ρ' u1 wr1 u' w' g1 g2 g3 ⟨rfl, rfl⟩ g5 g6 g7
        refine ih (A ++ B) _ _ τ M' ρ' _ w' hl' hp' (by simp [hsz]) hmem hdown' (Imm.le_trans hM g1) (hw.trans g7) (hs.app hd g1 g2 g5 g6) hn ?_ ?_ hrest hK
        · intro j hj n m1 m2
          have hji : j ≠ i := by rintro rfl; rcases List.mem_append.1 hj with h | h; exact hA h; exact hiB h
          rw [g3 n (by omega)]
          refine hf1 j ?_ n m1 m2
          rcases List.mem_append.1 hj with h | h
          · exact List.mem_append_left _ h
          · exact List.mem_append_right _ (List.mem_cons_of_mem _ h)
        · intro n m1
          rw [g3 n (by omega)]; exact hf2 n m1
      · rw [wanted_off hs hg]
        simp only [Bool.false_eq_true, if_false]
        refine ih (A ++ B) _ _ τ M ρ _ w hl' hp' (by simp [hsz]) hmem hdown' hM hw (hs.app (wr := []) hd (Imm.le_refl _) (Names.le_refl _) VR.skip hs.hr) hn ?_ hf2 hrest hK
        intro j hj n m1 m2
        refine hf1 j ?_ n m1 m2
        rcases List.mem_append.1 hj with h | h
        · exact List.mem_append_left _ h
        · exact List.mem_append_right _ (List.mem_cons_of_mem _ h)

theorem W_region_draw {C : Ctx} {id : Nat} {ops : Array Oper} {Q : Exit → St → Prop} {σ : St} (hm : C.P.follows .mixedOrders = true)
    (h : wops C ops.toList 0 ops.toList σ (some []) (fun σ' => Q .normal σ')) : W C (.region id ops true) Q σ := by
  intro M F pin ρ a w hs
  obtain ⟨fps, τ, _, h2, h3, h4, h5⟩ := wops_runs (K := fun σ' => Q .normal σ') ops.toList 0 σ [] rfl (fun j => by simp) h
  refine wp_region_any hm (wops_any (K := fun σ' => Q .normal σ') (M0 := M) (F := F) (pin := pin) (w0 := w) (nx := σ.nx) h2 ?_ ops.size (List.range' 0 ops.toList.length) (Array.replicate ops.size false) σ τ M ρ a _ (by simp) ?_ (by simp) ?_ ?_ (Imm.le_refl _) ⟨rfl, rfl, rfl, Nat.le_refl _⟩
    ⟨hs.tm, hs.sz, hs.df, hs.hr.drawn _, hs.pn, hs.pm, hs.gl⟩ rfl (fun i _ n g1 _ => hs.fr n (by omega)) (fun n g1 => hs.fr n (by omega)) h3 (by rw [← h4]; exact h5))
  · intro M' ρ' σ' a' w' k1 k2 k3 k4
    exact ⟨M', ρ', σ', k1, k2, k3, k4⟩
  · exact List.pairwise_lt_range'
  · intro i
    rw [List.mem_range']
    simp only [Array.length_toList]
    constructor
    · rintro ⟨j, hj, rfl⟩
      simp [Array.getD, hj]
    · rintro ⟨hi, _⟩
      exact ⟨i, hi, by omega⟩
  · intro i o ho hl
    have hi : i < ops.size := (Array.getElem?_eq_some_iff.1 ho).1
    simp [Array.getD, hi] at hl
end Go.Proofs.YtpdojmebloekgaaDoor.Nice
