/- Operations, first part: pure ones, memory of the call's own: variables, loads, stores, fields, places of slices. -/
import Derived.Test.YtpdojmebloekgaaDoorNiceD
import Derived.Laws.Entries
import Derived.Laws.Slices
namespace Go.Proofs.YtpdojmebloekgaaDoor.Nice
open Go
set_option linter.unusedVariables false

abbrev Out := Prop × List (Nat × Blk) × SV × List (Nat × Option Blk)

/-- An operation is sound: with the side condition it does what is told, and the blocks that it looks into are those of the heap. -/
def Sound (C : Ctx) (o : Oper) (nm : Nat) (v : Operand → SV) (h : Heap) (x : Out) : Prop :=
  x.1 → OpOK C o nm v x.2.1 (fun u wr => u = x.2.2.1 ∧ wr = x.2.2.2) ∧ (∀ p, p ∈ x.2.1 → h p.1 = some p.2) ∧ keysIn x.2.1 nm x.2.2.2 = true

theorem ok_value {C : Ctx} {o : Oper} {nm : Nat} {v : Operand → SV} {bs : List (Nat × Blk)} {u : SV} {wr : List (Nat × Option Blk)}
    (H : ∀ (M F : Imm) (ρ : Names) (a : Act) (h : Heap) (w : World), (∀ x, x ∈ o.op.operands → VR M ρ (v x) (a.eval x)) → HR M F ρ h w → (∀ p, p ∈ bs → h p.1 = some p.2) → (∀ n, nm ≤ n → n < nm + 8 → ρ n = none) →
      ∃ ρ' u' w', ρ.le ρ' ∧ (∀ n, n < nm ∨ nm + 8 ≤ n → ρ' n = ρ n) ∧ (execOp a.eval o).run C.P w = .ok (.value u') w' ∧ VR M ρ' u u' ∧ HR M F ρ' (wrH h wr) w' ∧ Same w w') :
    OpOK C o nm v bs (fun x y => x = u ∧ y = wr) := by
  intro M F ρ a h w hv hG hH hbs hfr K Q hK
  obtain ⟨ρ', u', w', h1, h2, h3, h4, h5, h6⟩ := H M F ρ a h w hv hH hbs hfr
  unfold Oper.wp
  rw [h3]
  exact hK M ρ' u wr u' w' (Imm.le_refl _) h1 h2 ⟨rfl, rfl⟩ h4 h5 h6

theorem ok_skip {C : Ctx} {o : Oper} {nm : Nat} {v : Operand → SV} {bs : List (Nat × Blk)} {wr : List (Nat × Option Blk)}
    (H : ∀ (M F : Imm) (ρ : Names) (a : Act) (h : Heap) (w : World), (∀ x, x ∈ o.op.operands → VR M ρ (v x) (a.eval x)) → HR M F ρ h w → (∀ p, p ∈ bs → h p.1 = some p.2) → (∀ n, nm ≤ n → n < nm + 8 → ρ n = none) →
      ∃ ρ' w', ρ.le ρ' ∧ (∀ n, n < nm ∨ nm + 8 ≤ n → ρ' n = ρ n) ∧ (execOp a.eval o).run C.P w = .ok .skip w' ∧ HR M F ρ' (wrH h wr) w' ∧ Same w w') :
    OpOK C o nm v bs (fun x y => x = .any ∧ y = wr) := by
  intro M F ρ a h w hv hG hH hbs hfr K Q hK
  obtain ⟨ρ', w', h1, h2, h3, h5, h6⟩ := H M F ρ a h w hv hH hbs hfr
  unfold Oper.wp
  rw [h3]
  exact hK M ρ' .any wr undef w' (Imm.le_refl _) h1 h2 ⟨rfl, rfl⟩ (.any _) h5 h6

/-- A value alone comes of it; memory stands as it stood. -/
theorem ok_pure {C : Ctx} {o : Oper} {nm : Nat} {v : Operand → SV} {bs : List (Nat × Blk)} {u : SV}
    (H : ∀ (M F : Imm) (ρ : Names) (a : Act) (h : Heap) (w : World), (∀ x, x ∈ o.op.operands → VR M ρ (v x) (a.eval x)) → HR M F ρ h w → (∀ p, p ∈ bs → h p.1 = some p.2) → ∃ u', (execOp a.eval o).run C.P w = .ok (.value u') w ∧ VR M ρ u u') :
    OpOK C o nm v bs (fun x y => x = u ∧ y = []) :=
  ok_value fun M F ρ a h w hv hH hbs _ => let ⟨u', h1, h2⟩ := H M F ρ a h w hv hH hbs; ⟨ρ, u', w, Names.le_refl _, fun _ _ => rfl, h1, h2, hH, .refl _⟩

/- operations on plain values, by the model's own text -/
def pvS {α : Type} (P : Program) : Sem α → Option α
  | .pure a => some a
  | .program k => pvS P (k P)
  | _ => none
theorem pvS_run {α : Type} {P : Program} {s : Sem α} {a : α} (h : pvS P s = some a) (w : World) : s.run P w = .ok a w := by
  induction s with
  | pure b => simp [pvS] at h; subst h; rfl
  | program k ih => simp only [pvS] at h; simp only [Sem.run]; exact ih P h
  | _ => simp [pvS] at h

def valOf : SV → Option Value
  | .d (.val u) => some u
  | _ => none
def allVal (v : Operand → SV) : List Operand → Bool
  | [] => true
  | x :: r => (valOf (v x)).isSome && allVal v r
def rhoOf (v : Operand → SV) (x : Operand) : Value := (valOf (v x)).getD undef
def isSelect : Op → Bool
  | .select .. => true
  | _ => false

def pureS (P : Program) (o : Oper) (v : Operand → SV) : Option Out :=
  if isSelect o.op then none else
  if allVal v o.op.operands.toList then
    match pvS P (execOp (rhoOf v) o) with
    | some (.value r) => if r.oneCell' then some (True, [], .d (.val r), []) else none
    | _ => none
  else none

theorem allVal_get {v : Operand → SV} : ∀ {l : List Operand}, allVal v l = true → ∀ x, x ∈ l → ∃ u, v x = .d (.val u)
  | [], _, x, h => by cases h
  | y :: r, h, x, hx => by
    simp only [allVal, Bool.and_eq_true] at h
    rcases List.mem_cons.1 hx with rfl | hx
    · cases e : v x with
      | d z => cases z <;> simp_all [valOf]
      | _ => simp [e, valOf] at h
    · exact allVal_get h.2 x hx

theorem pureS_ok {C : Ctx} {o : Oper} {nm : Nat} {v : Operand → SV} {h : Heap} {x : Out} (e : pureS C.P o v = some x) : Sound C o nm v h x := by
  unfold pureS at e
  split at e
  · cases e
  next hsel =>
  split at e
  next hall =>
    split at e
    next r hr =>
      split at e
      next h1 =>
        cases e
        intro _
        refine ⟨ok_pure fun M F ρ a h w hv hH _ => ⟨r, ?_, .d _ _ (.val _ h1)⟩, fun p hp => by simp at hp, rfl⟩
        have hc : execOp (rhoOf v) o = execOp a.eval o := by
          refine execOp_congr o (fun cs b hcs => by simp [hcs, isSelect] at hsel) fun y hy => ?_
          obtain ⟨u, hu⟩ := allVal_get hall y (Array.mem_toList_iff.2 hy)
          have := hv y hy
          rw [hu] at this
          rw [this.val]
          simp [rhoOf, hu, valOf]
        rw [← hc]
        exact pvS_run hr w
      · cases e
    · cases e
  · cases e

/- cells -/
def rowAt (f : Nat → Nat → D) (i : Nat) : Nat → Nat → List SV
  | _, 0 => []
  | c, n + 1 => .d (f i c) :: rowAt f i (c + 1) n
theorem rowAt_length (f : Nat → Nat → D) (i : Nat) : ∀ n c, (rowAt f i c n).length = n
  | 0, c => rfl
  | n + 1, c => by simp [rowAt, rowAt_length f i n (c + 1)]
theorem rowAt_get (f : Nat → Nat → D) (i : Nat) : ∀ n c j s, (rowAt f i c n)[j]? = some s → j < n ∧ s = .d (f i (c + j))
  | 0, c, j, s, h => by simp [rowAt] at h
  | n + 1, c, 0, s, h => by simp [rowAt] at h; exact ⟨by omega, h.symm⟩
  | n + 1, c, j + 1, s, h => by
    simp [rowAt] at h
    obtain ⟨h1, h2⟩ := rowAt_get f i n (c + 1) j s h
    exact ⟨by omega, by rw [h2, show c + 1 + j = c + (j + 1) by omega]⟩

/-- The n cells at a pointer. -/
def cellsAt (a : SV) (h : Heap) (n : Nat) : Option (Prop × List (Nat × Blk) × List SV) :=
  match a with
  | .ptr m i c =>
    match h m with
    | some (.cells ty k xs) => if Nat.beq ((xs.drop (i * k + c)).take n).length n then some (True, [(m, .cells ty k xs)], (xs.drop (i * k + c)).take n) else none
    | some (.rows ty k len f) => if Nat.ble (c + n) k then some (i < len, [(m, .rows ty k len f)], rowAt f i c n) else none
    | _ => none
  | .vp k len f i c => if Nat.ble (c + n) k then some (i < len, [], rowAt f i c n) else none
  | _ => none

theorem HR.cells {M F : Imm} {ρ : Names} {h : Heap} {w : World} (H : HR M F ρ h w) {n : Nat} {ty k : Nat} {xs : List SV} (hn : h n = some (.cells ty k xs)) {x : Own} (hx : ρ n = some x) :
    ∃ cur, w.heap[x.b]? = some (.cells cur ty (0, 0)) ∧ 0 < x.R ∧ x.k = k ∧ cur.size = x.R * k ∧ xs.length ≤ cur.size ∧ ∀ (j : Nat) (s : SV), xs[j]? = some s → ∃ v, cur[j]? = some v ∧ VR M ρ s v := by
  obtain ⟨x', hx', hr⟩ := H.live n _ hn
  rw [hx] at hx'; obtain rfl := Option.some.inj hx'
  rcases hr with ⟨_, hg⟩ | ⟨h0, _, _, o, h3, h4⟩
  · simp [Blk.ghost] at hg
  · cases o with
    | cells cur T fz => obtain ⟨rfl, rfl, rest⟩ := h4; exact ⟨cur, h3, h0, rest⟩
    | _ => exact h4.elim
theorem HR.rows {M F : Imm} {ρ : Names} {h : Heap} {w : World} (H : HR M F ρ h w) {n : Nat} {ty k len : Nat} {f : Nat → Nat → D} (hn : h n = some (.rows ty k len f)) (hl : 0 < len) {x : Own} (hx : ρ n = some x) :
    ∃ cur, w.heap[x.b]? = some (.cells cur ty (0, 0)) ∧ 0 < x.R ∧ x.k = k ∧ cur.size = x.R * k ∧ len ≤ x.R ∧ ∀ i c, i < len → c < k → ∃ v, cur[i * k + c]? = some v ∧ DR M (f i c) v := by
  obtain ⟨x', hx', hr⟩ := H.live n _ hn
  rw [hx] at hx'; obtain rfl := Option.some.inj hx'
  rcases hr with ⟨_, hg⟩ | ⟨h0, _, _, o, h3, h4⟩
  · cases len <;> simp_all [Blk.ghost]
  · cases o with
    | cells cur T fz => obtain ⟨rfl, rfl, rest⟩ := h4; exact ⟨cur, h3, h0, rest⟩
    | _ => exact h4.elim

theorem cellsAt_ok {a : SV} {h0 : Heap} {n : Nat} {vc : Prop} {bs : List (Nat × Blk)} {ys : List SV} (e : cellsAt a h0 n = some (vc, bs, ys)) (hvc : vc) :
    (∀ p, p ∈ bs → h0 p.1 = some p.2) ∧ ys.length = n ∧ ∀ (M F : Imm) (ρ : Names) (h : Heap) (w : World) (av : Value), VR M ρ a av → HR M F ρ h w → (∀ p, p ∈ bs → h p.1 = some p.2) →
      ∃ b off, av = .pointer (some ⟨b, off, none⟩) ∧ ∀ (j : Nat) (s : SV), ys[j]? = some s → ∃ v, w.cell? ⟨b, off + j, none⟩ = some v ∧ VR M ρ s v := by
  unfold cellsAt at e
  split at e
  · next m i c =>
    split at e
    · next ty k xs hm =>
      split at e
      · next hl =>
        cases e
        have hl := Nat.eq_of_beq_eq_true hl
        refine ⟨fun p hp => by simp at hp; subst hp; exact hm, hl, fun M F ρ h w av hv hH hbs => ?_⟩
        cases hv with
        | ptr _ _ _ x hx =>
          obtain ⟨cur, h1, h2, h3, h4, h5, h6⟩ := hH.cells (hbs _ (List.mem_singleton.2 rfl)) hx
          refine ⟨x.b, i * x.k + c, rfl, fun j s hj => ?_⟩
          rw [cell_of_row w x.b _ cur ty (0, 0) h1, h3]
          rw [List.getElem?_take] at hj
          split at hj
          · rw [List.getElem?_drop] at hj
            exact h6 _ s hj
          · cases hj
      · cases e
    · next ty k len f hm =>
      split at e
      · next hc =>
        cases e
        have hc := Nat.le_of_ble_eq_true hc
        refine ⟨fun p hp => by simp at hp; subst hp; exact hm, rowAt_length .., fun M F ρ h w av hv hH hbs => ?_⟩
        cases hv with
        | ptr _ _ _ x hx =>
          obtain ⟨cur, h1, h2, h3, h4, h5, h6⟩ := hH.rows (hbs _ (List.mem_singleton.2 rfl)) (by omega) hx
          refine ⟨x.b, i * x.k + c, rfl, fun j s hj => ?_⟩
          obtain ⟨hj1, rfl⟩ := rowAt_get f i n c j s hj
          rw [cell_of_row w x.b _ cur ty (0, 0) h1, h3]
          obtain ⟨v, hv1, hv2⟩ := h6 i (c + j) hvc (by omega)
          exact ⟨v, by rw [← hv1]; congr 1; omega, .d _ _ hv2⟩
      · cases e
    · cases e
  · next k len f i c =>
    split at e
    · next hc =>
      cases e
      have hc := Nat.le_of_ble_eq_true hc
      refine ⟨fun p hp => by simp at hp, rowAt_length .., fun M F ρ h w av hv hH hbs => ?_⟩
      cases hv with
      | vp _ _ _ _ _ b o cur T fz g hb hg hr =>
        refine ⟨b, o + i * k + c, rfl, fun j s hj => ?_⟩
        obtain ⟨hj1, rfl⟩ := rowAt_get f i n c j s hj
        have := hH.imm b _ hb
        rw [cell_of_row w b _ cur T fz this]
        exact ⟨g i (c + j), by rw [← hg i (c + j) hvc (by omega)]; congr 1; omega, .d _ _ (hr i (c + j) hvc (by omega))⟩
    · cases e
  · cases e

def isAggB (P : Program) (t : TypeId) : Option Bool :=
  match P.underlying t with
  | some (.struct _) | some (.array _ _) => some true
  | some _ => some false
  | none => none
theorem run_isAgg {P : Program} {t : TypeId} {b : Bool} (h : isAggB P t = some b) (w : World) : (isAgg t).run P w = .ok b w := by
  unfold isAggB at h
  cases e : P.underlying t with
  | none => rw [e] at h; cases h
  | some d => cases d <;> rw [e] at h <;> cases h <;> simp [isAgg, run_underlying e]

def loadS (P : Program) (t : TypeId) (a : SV) (h : Heap) : Option (Prop × List (Nat × Blk) × SV) :=
  match isAggB P t with
  | some true =>
    match P.info? t with
    | some i => match cellsAt a h i.size with
      | some (vc, bs, ys) => some (vc, bs, .agg ys)
      | none => none
    | none => none
  | some false => match cellsAt a h 1 with
    | some (vc, bs, [y]) => some (vc, bs, y)
    | _ => none
  | none => none

theorem loadS_ok {P : Program} {t : TypeId} {a : SV} {h0 : Heap} {vc : Prop} {bs : List (Nat × Blk)} {u : SV} (e : loadS P t a h0 = some (vc, bs, u)) (hvc : vc) :
    (∀ p, p ∈ bs → h0 p.1 = some p.2) ∧ ∀ (M F : Imm) (ρ : Names) (h : Heap) (w : World) (av : Value), VR M ρ a av → HR M F ρ h w → (∀ p, p ∈ bs → h p.1 = some p.2) →
      ∃ v, (Instr.loadAt t av).run P w = .ok v w ∧ (∃ ad, av = .pointer (some ad) ∧ (loadVar t ad).run P w = .ok v w) ∧ VR M ρ u v := by
  unfold loadS at e
  split at e
  · next hagg =>
    split at e
    · next inf hinf =>
      split at e
      · next vc' bs' ys hc =>
        cases e
        obtain ⟨h1, h2, h3⟩ := cellsAt_ok hc hvc
        refine ⟨h1, fun M F ρ h w av hv hH hbs => ?_⟩
        obtain ⟨b, off, rfl, hcells⟩ := h3 M F ρ h w av hv hH hbs
        have hg : ∀ j, j < inf.size → ∃ v, w.cell? ⟨b, off + j, none⟩ = some v ∧ ∀ s, ys[j]? = some s → VR M ρ s v := by
          intro j hj
          have : ys[j]? = some (ys[j]'(by omega)) := List.getElem?_eq_getElem _
          obtain ⟨v, k1, k2⟩ := hcells j _ this
          exact ⟨v, k1, fun s hs => by rw [this] at hs; cases hs; exact k2⟩
        let g : Nat → Value := fun j => (w.cell? ⟨b, off + j, none⟩).getD undef
        have hgc : ∀ j, j < inf.size → w.cell? ⟨b, off + j, none⟩ = some (g j) := by
          intro j hj
          obtain ⟨v, k1, _⟩ := hg j hj
          simp [g, k1]
        have hl := run_loadCells (P := P) w ⟨b, off, none⟩ inf.size g (fun j hj => by rw [Addr.add_lit]; exact hgc j hj)
        have hrun : (loadVar t ⟨b, off, none⟩).run P w = .ok (.agg ((List.range inf.size).map g).toArray) w := by
          simp [loadVar, run_isAgg hagg, sizeOf, typeInfo, hinf, hl]
        refine ⟨_, by simp [Instr.loadAt, Instr.sureAddr, hrun], ⟨_, rfl, hrun⟩, .aggOf _ _ (by simp [h2]) fun i x hx => ?_⟩
        have hi : i < inf.size := by rw [← h2]; exact (List.getElem?_eq_some_iff.1 hx).1
        obtain ⟨v, k1, k2⟩ := hg i hi
        refine ⟨v, ?_, k2 x hx⟩
        simp [hi, g, k1]
      · cases e
    · cases e
  · next hagg =>
    split at e
    · next vc' bs' y hc =>
      cases e
      obtain ⟨h1, h2, h3⟩ := cellsAt_ok hc hvc
      refine ⟨h1, fun M F ρ h w av hv hH hbs => ?_⟩
      obtain ⟨b, off, rfl, hcells⟩ := h3 M F ρ h w av hv hH hbs
      obtain ⟨v, k1, k2⟩ := hcells 0 u rfl
      rw [Nat.add_zero] at k1
      have hrun : (loadVar t ⟨b, off, none⟩).run P w = .ok v w := by
        simp [loadVar, run_isAgg hagg, k1]
      exact ⟨v, by simp [Instr.loadAt, Instr.sureAddr, hrun], ⟨_, rfl, hrun⟩, k2⟩
    · cases e
  · cases e

/- stores -/
def flat : SV → Option (List SV)
  | .agg xs => some xs
  | .any | .tup _ => none
  | x => some [x]
def allOne : List SV → Bool
  | [] => true
  | x :: r => x.one && allOne r
theorem allOne_get : ∀ {xs : List SV}, allOne xs = true → ∀ (i : Nat) (x : SV), xs[i]? = some x → x.one = true
  | [], _, i, x, h => by simp at h
  | y :: r, h, 0, x, hx => by simp [allOne] at h hx; subst hx; exact h.1
  | y :: r, h, i + 1, x, hx => by simp [allOne] at h hx; exact allOne_get h.2 i x hx

theorem flat_ok {M : Imm} {ρ : Names} {x : SV} {v : Value} {ys : List SV} (h : VR M ρ x v) (e : flat x = some ys) (h1 : allOne ys = true) :
    v.cells.size = ys.length ∧ (∀ (i : Nat) (y : SV), ys[i]? = some y → ∃ u, v.cells[i]? = some u ∧ VR M ρ y u) ∧ ∀ u, u ∈ v.cells.toList → u.oneCell' = true := by
  have key : ∀ (vs : Array Value), vs.size = ys.length → (∀ (i : Nat) (y : SV), ys[i]? = some y → ∃ u, vs[i]? = some u ∧ VR M ρ y u) → ∀ u, u ∈ vs.toList → u.oneCell' = true := by
    intro vs hs hr u hu
    obtain ⟨i, hi⟩ := List.mem_iff_getElem?.1 hu
    have hlt : i < ys.length := by rw [← hs, ← Array.length_toList]; exact (List.getElem?_eq_some_iff.1 hi).1
    obtain ⟨u', k1, k2⟩ := hr i _ (List.getElem?_eq_getElem hlt)
    rw [Array.getElem?_toList] at hi
    rw [hi] at k1; cases k1
    exact k2.one (allOne_get h1 i _ (List.getElem?_eq_getElem hlt))
  have single : ∀ (z : SV), ys = [z] → v.cells = #[v] → VR M ρ z v → v.cells.size = ys.length ∧ (∀ (i : Nat) (y : SV), ys[i]? = some y → ∃ u, v.cells[i]? = some u ∧ VR M ρ y u) ∧ ∀ u, u ∈ v.cells.toList → u.oneCell' = true := by
    intro z hz hc hr
    have a : v.cells.size = ys.length := by rw [hz, hc]; rfl
    have b : ∀ (i : Nat) (y : SV), ys[i]? = some y → ∃ u, v.cells[i]? = some u ∧ VR M ρ y u := by
      intro i y hy
      rw [hz] at hy
      cases i with
      | zero => simp at hy; subst hy; exact ⟨v, by rw [hc]; rfl, hr⟩
      | succ i => simp at hy
    exact ⟨a, b, key _ a b⟩
  cases h with
  | any => cases e
  | d z v hd => cases e; exact single _ rfl (by have := hd.one; cases v <;> first | rfl | (simp [Value.oneCell'] at this)) (.d _ _ hd)
  | vp k len f i c b o cur T fz g hb hg hr => cases e; exact single _ rfl rfl (.vp _ _ _ _ _ b o cur T fz g hb hg hr)
  | ptr n i c x h => cases e; exact single _ rfl rfl (.ptr _ _ _ _ h)
  | sl n o len x h hl hR h0 => cases e; exact single _ rfl rfl (.sl _ _ _ _ h hl hR h0)
  | sl0 n o x h hR a => cases e; exact single _ rfl rfl (.sl0 _ _ _ h hR _)
  | cs n c len x cap h hc => cases e; exact single _ rfl rfl (.cs _ _ _ _ _ h hc)
  | opY n x h => cases e; exact single _ rfl rfl (.opY _ _ h)
  | opN n => cases e; exact single _ rfl rfl (.opN _)
  | map n x h => cases e; exact single _ rfl rfl (.map _ _ h)
  | fn f caps vs g hs hg hr => cases e; exact single _ rfl rfl (.fn _ _ _ g hs hg hr)
  | agg xs vs g hs hg hr =>
    cases e
    have b : ∀ (i : Nat) (y : SV), ys[i]? = some y → ∃ u, vs[i]? = some u ∧ VR M ρ y u := fun i y hy => ⟨g i, hg i (List.getElem?_eq_some_iff.1 hy).1, hr i y hy⟩
    exact ⟨hs, b, key vs hs b⟩
  | tup => cases e
  | iface t z v hz => cases e; exact single _ rfl rfl (.iface _ _ _ hz)

def dOf : List SV → Option (List D)
  | [] => some []
  | .d x :: r => (dOf r).map (x :: ·)
  | _ => none
def updR (f : Nat → Nat → D) (i c : Nat) (ds : List D) : Nat → Nat → D := fun i' c' =>
  if i' = i ∧ c ≤ c' ∧ c' < c + ds.length then ds.getD (c' - c) .any else f i' c'
theorem dOf_get : ∀ {ys : List SV} {ds : List D}, dOf ys = some ds → ds.length = ys.length ∧ ∀ (j : Nat) (x : D), ds[j]? = some x → ys[j]? = some (.d x)
  | [], ds, h => by simp [dOf] at h; subst h; simp
  | .d x :: r, ds, h => by
    simp only [dOf, Option.map_eq_some_iff] at h
    obtain ⟨ds', h1, rfl⟩ := h
    obtain ⟨k1, k2⟩ := dOf_get h1
    refine ⟨by simp [k1], fun j y hj => ?_⟩
    cases j with
    | zero => simp at hj; subst hj; rfl
    | succ j => simp at hj ⊢; exact k2 j y hj
  | .any :: r, ds, h => by simp [dOf] at h
  | .vp .. :: r, ds, h => by simp [dOf] at h
  | .ptr .. :: r, ds, h => by simp [dOf] at h
  | .sl .. :: r, ds, h => by simp [dOf] at h
  | .cs .. :: r, ds, h => by simp [dOf] at h
  | .op .. :: r, ds, h => by simp [dOf] at h
  | .map .. :: r, ds, h => by simp [dOf] at h
  | .fn .. :: r, ds, h => by simp [dOf] at h
  | .agg .. :: r, ds, h => by simp [dOf] at h
  | .tup .. :: r, ds, h => by simp [dOf] at h
  | .iface .. :: r, ds, h => by simp [dOf] at h

def storeAtS (a : SV) (ys : List SV) (h : Heap) : Option (Prop × List (Nat × Blk) × List (Nat × Option Blk)) :=
  match a with
  | .ptr m i c =>
    match h m with
    | some (.cells ty k xs) =>
      if Nat.ble (i * k + c + ys.length) xs.length then some (True, [(m, .cells ty k xs)], [(m, some (.cells ty k (xs.take (i * k + c) ++ ys ++ xs.drop (i * k + c + ys.length))))]) else none
    | some (.rows ty k len f) =>
      if Nat.ble (c + ys.length) k then
        match dOf ys with
        | some ds => some (i < len, [(m, .rows ty k len f)], [(m, some (.rows ty k len (updR f i c ds)))])
        | none => none
      else none
    | _ => none
  | _ => none

theorem seg_get {α : Type} (l vs : List α) (o j : Nat) (h : o + vs.length ≤ l.length) : (l.take o ++ vs ++ l.drop (o + vs.length))[j]? = if j < o then l[j]? else if j < o + vs.length then vs[j - o]? else l[j]? := by
  have ho : (l.take o).length = o := by rw [List.length_take]; omega
  by_cases h1 : j < o
  · rw [if_pos h1, List.append_assoc, List.getElem?_append_left (by omega), List.getElem?_take, if_pos h1]
  · rw [if_neg h1]
    by_cases h2 : j < o + vs.length
    · rw [if_pos h2, List.append_assoc, List.getElem?_append_right (by omega), ho, List.getElem?_append_left (by omega)]
    · rw [if_neg h2, List.getElem?_append_right (by rw [List.length_append, ho]; omega), List.length_append, ho, List.getElem?_drop]
      congr 1; omega

theorem storeAtS_ok {P : Program} {a : SV} {ys : List SV} {h0 : Heap} {vc : Prop} {bs : List (Nat × Blk)} {wr : List (Nat × Option Blk)} (e : storeAtS a ys h0 = some (vc, bs, wr)) (hvc : vc) :
    (∀ p, p ∈ bs → h0 p.1 = some p.2) ∧ (∀ nm, keysIn bs nm wr = true) ∧ ∀ (M F : Imm) (ρ : Names) (h : Heap) (w : World) (av : Value) (vs : Array Value), VR M ρ a av → HR M F ρ h w → (∀ p, p ∈ bs → h p.1 = some p.2) →
      vs.size = ys.length → (∀ (i : Nat) (y : SV), ys[i]? = some y → ∃ u, vs[i]? = some u ∧ VR M ρ y u) → (∀ u, u ∈ vs.toList → u.oneCell' = true) →
      ∃ ad w', av = .pointer (some ad) ∧ (storeCells ad vs.toList).run P w = .ok () w' ∧ HR M F ρ (wrH h wr) w' ∧ Same w w' := by
  have same : ∀ (w : World) (b : Nat) (cs : Array Value), Same w (w.setRow b cs) := fun w b cs => ⟨rfl, rfl, rfl, by simp⟩
  unfold storeAtS at e
  split at e
  · next m i c =>
    split at e
    · next ty k xs hm =>
      split at e
      · next hl =>
        cases e
        have hl := Nat.le_of_ble_eq_true hl
        refine ⟨fun p hp => by simp at hp; subst hp; exact hm, fun nm => by simp [keysIn], fun M F ρ h w av vs hv hH hbs hsz hrel h1 => ?_⟩
        cases hv with
        | ptr _ _ _ x hx =>
          have hm' := hbs _ (List.mem_singleton.2 rfl)
          obtain ⟨cur, k1, k2, k3, k4, k5, k6⟩ := hH.cells hm' hx
          subst k3
          have hfit : i * x.k + c + vs.toList.length ≤ cur.size := by rw [Array.length_toList, hsz]; omega
          have hst := run_storeCells_at P x.b (i * x.k + c) ty vs.toList 0 cur w k1 (by rw [Nat.add_zero]; exact hfit) h1
          rw [Nat.add_zero] at hst
          refine ⟨_, _, rfl, hst, ?_, same _ _ _⟩
          refine hH.put m x (by rw [hm']; simp) hx k2 _ _ (setRow_heap w x.b cur _ ty (0, 0) k1) (fun b hb => setRow_other w x.b b _ hb) ?_
          have hlen : vs.toList.length = ys.length := by rw [Array.length_toList, hsz]
          refine ⟨rfl, rfl, rfl, ?_, ?_, fun j s hs => ?_⟩
          · simp only [List.size_toArray, List.length_append, List.length_take, List.length_drop, Array.length_toList]
            rw [← k4]
            simp only [Array.length_toList] at hfit; omega
          · simp only [List.size_toArray, List.length_append, List.length_take, List.length_drop, Array.length_toList]
            rw [hsz]; omega
          · rw [seg_get _ _ _ _ hl] at hs
            rw [List.getElem?_toArray, seg_get _ _ _ _ (by rw [Array.length_toList]; exact hfit), hlen]
            split
            · next hj => rw [if_pos hj] at hs; rw [Array.getElem?_toList]; exact k6 j s hs
            · next hj =>
              rw [if_neg hj] at hs
              split
              · next hj2 => rw [if_pos hj2] at hs; rw [Array.getElem?_toList]; exact hrel _ s hs
              · next hj2 => rw [if_neg hj2] at hs; rw [Array.getElem?_toList]; exact k6 j s hs
      · cases e
    · next ty k len f hm =>
      split at e
      · next hc =>
        split at e
        · next ds hds =>
          cases e
          have hc := Nat.le_of_ble_eq_true hc
          refine ⟨fun p hp => by simp at hp; subst hp; exact hm, fun nm => by simp [keysIn], fun M F ρ h w av vs hv hH hbs hsz hrel h1 => ?_⟩
          cases hv with
          | ptr _ _ _ x hx =>
            have hm' := hbs _ (List.mem_singleton.2 rfl)
            obtain ⟨cur, k1, k2, k3, k4, k5, k6⟩ := hH.rows hm' (by omega) hx
            subst k3
            obtain ⟨d1, d2⟩ := dOf_get hds
            have hrow : (i + 1) * x.k ≤ x.R * x.k := Nat.mul_le_mul_right _ (by omega)
            have hfit : i * x.k + c + vs.toList.length ≤ cur.size := by
              rw [Array.length_toList, hsz, k4]
              rw [Nat.succ_mul] at hrow; omega
            have hst := run_storeCells_at P x.b (i * x.k + c) ty vs.toList 0 cur w k1 (by rw [Nat.add_zero]; exact hfit) h1
            rw [Nat.add_zero] at hst
            refine ⟨_, _, rfl, hst, ?_, same _ _ _⟩
            refine hH.put m x (by rw [hm']; simp) hx k2 _ _ (setRow_heap w x.b cur _ ty (0, 0) k1) (fun b hb => setRow_other w x.b b _ hb) ?_
            have hlen : vs.toList.length = ys.length := by rw [Array.length_toList, hsz]
            refine ⟨rfl, rfl, rfl, ?_, k5, fun i' c' hi' hc' => ?_⟩
            · simp only [List.size_toArray, List.length_append, List.length_take, List.length_drop, Array.length_toList]
              rw [← k4]
              simp only [Array.length_toList] at hfit; omega
            · rw [List.getElem?_toArray, seg_get _ _ _ _ (by rw [Array.length_toList]; exact hfit), hlen]
              unfold updR
              by_cases hin : i' = i ∧ c ≤ c' ∧ c' < c + ds.length
              · rw [if_pos hin]
                obtain ⟨rfl, g1, g2⟩ := hin
                rw [if_neg (by omega), if_pos (by omega), Array.getElem?_toList]
                have hd : ds[c' - c]? = some (ds[c' - c]'(by omega)) := List.getElem?_eq_getElem _
                obtain ⟨u, u1, u2⟩ := hrel (c' - c) _ (d2 _ _ hd)
                refine ⟨u, by rw [← u1]; congr 1; omega, ?_⟩
                rw [List.getD_eq_getElem?_getD, hd]
                cases u2 with | d _ _ h => exact h
              · rw [if_neg hin]
                have hne : i' * x.k + c' < i * x.k + c ∨ i * x.k + c + ys.length ≤ i' * x.k + c' := by
                  rcases Nat.lt_trichotomy i' i with hlt | heq | hgt
                  · left
                    have : (i' + 1) * x.k ≤ i * x.k := Nat.mul_le_mul_right _ hlt
                    rw [Nat.succ_mul] at this; omega
                  · subst heq
                    rw [d1] at hin
                    omega
                  · right
                    have : (i + 1) * x.k ≤ i' * x.k := Nat.mul_le_mul_right _ hgt
                    rw [Nat.succ_mul] at this; omega
                rcases hne with hne | hne
                · rw [if_pos hne, Array.getElem?_toList]; exact k6 i' c' hi' hc'
                · rw [if_neg (by omega), if_neg (by omega), Array.getElem?_toList]; exact k6 i' c' hi' hc'
        · cases e
      · cases e
    · cases e
  · cases e

def storeS (P : Program) (t : TypeId) (a x : SV) (h : Heap) : Option Out :=
  match P.info? t with
  | some i =>
    match flat x with
    | some ys => if Nat.beq ys.length i.size && allOne ys then
        match storeAtS a ys h with
        | some (vc, bs, wr) => some (vc, bs, .any, wr)
        | none => none
      else none
    | none => none
  | none => none

theorem mem_ops2 {x y z : Operand} (h : z = x ∨ z = y) : z ∈ (#[x, y] : Array Operand) := by
  rcases h with rfl | rfl <;> simp

theorem storeS_ok {C : Ctx} {o : Oper} {nm : Nat} {v : Operand → SV} {h : Heap} {x : Out} {t : TypeId} {a y : Operand} (ho : o.op = .store t a y) (e : storeS C.P t (v a) (v y) h = some x) : Sound C o nm v h x := by
  unfold storeS at e
  split at e
  next i hi =>
    split at e
    next ys hys =>
      split at e
      next hc =>
        split at e
        next vc bs wr hst =>
          cases e
          intro hvc
          simp only [Bool.and_eq_true] at hc
          have hlen := Nat.eq_of_beq_eq_true hc.1
          obtain ⟨h1, h2, h3⟩ := storeAtS_ok (P := C.P) hst hvc
          refine ⟨ok_skip fun M F ρ a' h w hv hH hbs hfr => ?_, h1, h2 nm⟩
          have va := hv a (by rw [ho]; exact mem_ops2 (.inl rfl))
          have vy := hv y (by rw [ho]; exact mem_ops2 (.inr rfl))
          obtain ⟨f1, f2, f3⟩ := flat_ok vy hys hc.2
          obtain ⟨ad, w', g1, g2, g3, g4⟩ := h3 M F ρ h w _ _ va hH hbs f1 f2 f3
          refine ⟨ρ, w', Names.le_refl _, fun _ _ => rfl, ?_, g3, g4⟩
          have hs : (a'.eval y).cells.size = i.size := by rw [f1, hlen]
          simp [execOp, ho, Instr.storeAt, g1, Instr.sureAddr, storeVar, sizeOf, typeInfo, hi, hs, g2]
        · cases e
      · cases e
    · cases e
  · cases e

def loadOp (P : Program) (t : TypeId) (a : SV) (h : Heap) : Option Out :=
  match loadS P t a h with
  | some (vc, bs, u) => some (vc, bs, u, [])
  | none => none
theorem loadOp_ok {C : Ctx} {o : Oper} {nm : Nat} {v : Operand → SV} {h : Heap} {x : Out} {t : TypeId} {a : Operand} (ho : o.op = .load t a) (e : loadOp C.P t (v a) h = some x) : Sound C o nm v h x := by
  unfold loadOp at e
  split at e
  next vc bs u hl =>
    cases e
    intro hvc
    obtain ⟨h1, h2⟩ := loadS_ok hl hvc
    refine ⟨ok_pure fun M F ρ a' h w hv hH hbs => ?_, h1, rfl⟩
    obtain ⟨u', k1, _, k2⟩ := h2 M F ρ h w _ (hv a (by rw [ho]; simp [Op.operands])) hH hbs
    exact ⟨u', by simp [execOp, ho, k1], k2⟩
  · cases e
end Go.Proofs.YtpdojmebloekgaaDoor.Nice
