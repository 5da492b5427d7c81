/- Part 2 of the proof of CrewTotals: NiceE, NiceF, NiceG, NiceH. -/
import Derived.Test.YtpdojmebloekgaaDoorZT1
import Derived.Laws.Entries
import Derived.Laws.Slices
namespace Go.Proofs.YtpdojmebloekgaaDoor.Nice
open Go
set_option linter.unusedVariables false
abbrev Out := Prop × List (Nat × Blk) × SV × List (Nat × Option Blk)
def Sound (C : Ctx) (o : Oper) (nm : Nat) (v : Operand → SV) (h : Heap) (x : Out) : Prop :=
 x.1 → OpOK C o nm v x.2.1 (fun u wr => u = x.2.2.1 ∧ wr = x.2.2.2) ∧ (∀ p, p ∈ x.2.1 → h p.1 = some p.2) ∧ keysIn x.2.1 nm x.2.2.2 = true
theorem ok_value {C : Ctx} {o : Oper} {nm : Nat} {v : Operand → SV} {bs : List (Nat × Blk)} {u : SV} {wr : List (Nat × Option Blk)}
   (H : ∀ (M F : Imm) (ρ : Names) (a : Act) (h : Heap) (w : World), (∀ x, x ∈ o.op.operands → VR M ρ (v x) (a.eval x)) → HR M F ρ h w → (∀ p, p ∈ bs → h p.1 = some p.2) → (∀ n, nm ≤ n → n < nm + 8 → ρ n = none) →
     ∃ ρ' u' w', ρ.le ρ' ∧ (∀ n, n < nm ∨ nm + 8 ≤ n → ρ' n = ρ n) ∧ (execOp a.eval o).run C.P w = .ok (.value u') w' ∧ VR M ρ' u u' ∧ HR M F ρ' (wrH h wr) w' ∧ Same w w') :
   OpOK C o nm v bs (fun x y => x = u ∧ y = wr) := by
 intro M F ρ a h w hv hG hH hbs hfr K Q hK
 obtain ⟨ρ', u', w', h1, h2, h3, h4, h5, h6⟩ := H M F ρ a h w hv hH hbs hfr
 unfold Oper.wp
 rw [h3]
 exact hK M ρ' u wr u' w' (Imm.le_refl _) h1 h2 ⟨rfl, rfl⟩ h4 h5 h6
theorem ok_skip {C : Ctx} {o : Oper} {nm : Nat} {v : Operand → SV} {bs : List (Nat × Blk)} {wr : List (Nat × Option Blk)}
   (H : ∀ (M F : Imm) (ρ : Names) (a : Act) (h : Heap) (w : World), (∀ x, x ∈ o.op.operands → VR M ρ (v x) (a.eval x)) → HR M F ρ h w → (∀ p, p ∈ bs → h p.1 = some p.2) → (∀ n, nm ≤ n → n < nm + 8 → ρ n = none) →
     ∃ ρ' w', ρ.le ρ' ∧ (∀ n, n < nm ∨ nm + 8 ≤ n → ρ' n = ρ n) ∧ (execOp a.eval o).run C.P w = .ok .skip w' ∧ HR M F ρ' (wrH h wr) w' ∧ Same w w') :
   OpOK C o nm v bs (fun x y => x = .any ∧ y = wr) := by
 intro M F ρ a h w hv hG hH hbs hfr K Q hK
 obtain ⟨ρ', w', h1, h2, h3, h5, h6⟩ := H M F ρ a h w hv hH hbs hfr
 unfold Oper.wp
 rw [h3]
 exact hK M ρ' .any wr undef w' (Imm.le_refl _) h1 h2 ⟨rfl, rfl⟩ (.any _) h5 h6
theorem ok_pure {C : Ctx} {o : Oper} {nm : Nat} {v : Operand → SV} {bs : List (Nat × Blk)} {u : SV}
   (H : ∀ (M F : Imm) (ρ : Names) (a : Act) (h : Heap) (w : World), (∀ x, x ∈ o.op.operands → VR M ρ (v x) (a.eval x)) → HR M F ρ h w → (∀ p, p ∈ bs → h p.1 = some p.2) → ∃ u', (execOp a.eval o).run C.P w = .ok (.value u') w ∧ VR M ρ u u') :
   OpOK C o nm v bs (fun x y => x = u ∧ y = []) :=
 ok_value fun M F ρ a h w hv hH hbs _ => let ⟨u', h1, h2⟩ := H M F ρ a h w hv hH hbs; ⟨ρ, u', w, Names.le_refl _, fun _ _ => rfl, h1, h2, hH, .refl _⟩
/- operations on plain values, by the model's own text -/
def pvS {α : Type} (P : Program) : Sem α → Option α
 | .pure a => some a
 | .program k => pvS P (k P)
 | _ => none
theorem pvS_run {α : Type} {P : Program} {s : Sem α} {a : α} (h : pvS P s = some a) (w : World) : s.run P w = .ok a w := by
 induction s with
 | pure b => simp [pvS] at h; subst h; rfl
 | program k ih => simp only [pvS] at h; simp only [Sem.run]; exact ih P h
 | _ => simp [pvS] at h
def valOf : SV → Option Value
 | .d (.val u) => some u
 | _ => none
def allVal (v : Operand → SV) : List Operand → Bool
 | [] => true
 | x :: r => (valOf (v x)).isSome && allVal v r
def rhoOf (v : Operand → SV) (x : Operand) : Value := (valOf (v x)).getD undef
def isSelect : Op → Bool
 | .select .. => true
 | _ => false
def pureS (P : Program) (o : Oper) (v : Operand → SV) : Option Out :=
 if isSelect o.op then none else
 if allVal v o.op.operands.toList then
   match pvS P (execOp (rhoOf v) o) with
   | some (.value r) => if r.oneCell' then some (True, [], .d (.val r), []) else none
   | _ => none
 else none
theorem allVal_get {v : Operand → SV} : ∀ {l : List Operand}, allVal v l = true → ∀ x, x ∈ l → ∃ u, v x = .d (.val u)
 | [], _, x, h => by cases h
 | y :: r, h, x, hx => by
   simp only [allVal, Bool.and_eq_true] at h
   rcases List.mem_cons.1 hx with rfl | hx
   · cases e : v x with
     | d z => cases z <;> simp_all [valOf]
     | _ => simp [e, valOf] at h
   · exact allVal_get h.2 x hx
theorem pureS_ok {C : Ctx} {o : Oper} {nm : Nat} {v : Operand → SV} {h : Heap} {x : Out} (e : pureS C.P o v = some x) : Sound C o nm v h x := by
 unfold pureS at e
 split at e
 · cases e
 next hsel =>
 split at e
 next hall =>
   split at e
   next r hr =>
     split at e
     next h1 =>
       cases e
       intro _
       refine ⟨ok_pure fun M F ρ a h w hv hH _ => ⟨r, ?_, .d _ _ (.val _ h1)⟩, fun p hp => by simp at hp, rfl⟩
       have hc : execOp (rhoOf v) o = execOp a.eval o := by
         refine execOp_congr o (fun cs b hcs => by simp [hcs, isSelect] at hsel) fun y hy => ?_
         obtain ⟨u, hu⟩ := allVal_get hall y (Array.mem_toList_iff.2 hy)
         have := hv y hy
         rw [hu] at this
         rw [this.val]
         simp [rhoOf, hu, valOf]
       rw [← hc]
       exact pvS_run hr w
     · cases e
   · cases e
 · cases e
/- cells -/
def rowAt (f : Nat → Nat → D) (i : Nat) : Nat → Nat → List SV
 | _, 0 => []
 | c, n + 1 => .d (f i c) :: rowAt f i (c + 1) n
theorem rowAt_length (f : Nat → Nat → D) (i : Nat) : ∀ n c, (rowAt f i c n).length = n
 | 0, c => rfl
 | n + 1, c => by simp [rowAt, rowAt_length f i n (c + 1)]
theorem rowAt_get (f : Nat → Nat → D) (i : Nat) : ∀ n c j s, (rowAt f i c n)[j]? = some s → j < n ∧ s = .d (f i (c + j))
 | 0, c, j, s, h => by simp [rowAt] at h
 | n + 1, c, 0, s, h => by simp [rowAt] at h; exact ⟨by omega, h.symm⟩
 | n + 1, c, j + 1, s, h => by
   simp [rowAt] at h
   obtain ⟨h1, h2⟩ := rowAt_get f i n (c + 1) j s h
   exact ⟨by omega, by rw [h2, show c + 1 + j = c + (j + 1) by omega]⟩
def cellsAt (a : SV) (h : Heap) (n : Nat) : Option (Prop × List (Nat × Blk) × List SV) :=
 match a with
 | .ptr m i c =>
   match h m with
   | some (.cells ty k xs) => if Nat.beq ((xs.drop (i * k + c)).take n).length n then some (True, [(m, .cells ty k xs)], (xs.drop (i * k + c)).take n) else none
   | some (.rows ty k len f) => if Nat.ble (c + n) k then some (i < len, [(m, .rows ty k len f)], rowAt f i c n) else none
   | _ => none
 | .vp k len f i c => if Nat.ble (c + n) k then some (i < len, [], rowAt f i c n) else none
 | _ => none
theorem HR.cells {M F : Imm} {ρ : Names} {h : Heap} {w : World} (H : HR M F ρ h w) {n : Nat} {ty k : Nat} {xs : List SV} (hn : h n = some (.cells ty k xs)) {x : Own} (hx : ρ n = some x) :
   ∃ cur, w.heap[x.b]? = some (.cells cur ty (0, 0)) ∧ 0 < x.R ∧ x.k = k ∧ cur.size = x.R * k ∧ xs.length ≤ cur.size ∧ ∀ (j : Nat) (s : SV), xs[j]? = some s → ∃ v, cur[j]? = some v ∧ VR M ρ s v := by
 obtain ⟨x', hx', hr⟩ := H.live n _ hn
 rw [hx] at hx'; obtain rfl := Option.some.inj hx'
 rcases hr with ⟨_, hg⟩ | ⟨h0, _, _, o, h3, h4⟩
 · simp [Blk.ghost] at hg
 · cases o with
   | cells cur T fz => obtain ⟨rfl, rfl, rest⟩ := h4; exact ⟨cur, h3, h0, rest⟩
   | _ => exact h4.elim
theorem HR.rows {M F : Imm} {ρ : Names} {h : Heap} {w : World} (H : HR M F ρ h w) {n : Nat} {ty k len : Nat} {f : Nat → Nat → D} (hn : h n = some (.rows ty k len f)) (hl : 0 < len) {x : Own} (hx : ρ n = some x) :
   ∃ cur, w.heap[x.b]? = some (.cells cur ty (0, 0)) ∧ 0 < x.R ∧ x.k = k ∧ cur.size = x.R * k ∧ len ≤ x.R ∧ ∀ i c, i < len → c < k → ∃ v, cur[i * k + c]? = some v ∧ DR M (f i c) v := by
 obtain ⟨x', hx', hr⟩ := H.live n _ hn
 rw [hx] at hx'; obtain rfl := Option.some.inj hx'
 rcases hr with ⟨_, hg⟩ | ⟨h0, _, _, o, h3, h4⟩
 · cases len <;> simp_all [Blk.ghost]
 · cases o with
   | cells cur T fz => obtain ⟨rfl, rfl, rest⟩ := h4; exact ⟨cur, h3, h0, rest⟩
   | _ => exact h4.elim
theorem cellsAt_ok {a : SV} {h0 : Heap} {n : Nat} {vc : Prop} {bs : List (Nat × Blk)} {ys : List SV} (e : cellsAt a h0 n = some (vc, bs, ys)) (hvc : vc) :
   (∀ p, p ∈ bs → h0 p.1 = some p.2) ∧ ys.length = n ∧ ∀ (M F : Imm) (ρ : Names) (h : Heap) (w : World) (av : Value), VR M ρ a av → HR M F ρ h w → (∀ p, p ∈ bs → h p.1 = some p.2) →
     ∃ b off, av = .pointer (some ⟨b, off, none⟩) ∧ ∀ (j : Nat) (s : SV), ys[j]? = some s → ∃ v, w.cell? ⟨b, off + j, none⟩ = some v ∧ VR M ρ s v := by
 unfold cellsAt at e
 split at e
 · next m i c =>
   split at e
   · next ty k xs hm =>
     split at e
     · next hl =>
       cases e
       have hl := Nat.eq_of_beq_eq_true hl
       refine ⟨fun p hp => by simp at hp; subst hp; exact hm, hl, fun M F ρ h w av hv hH hbs => ?_⟩
       cases hv with
       | ptr _ _ _ x hx =>
         obtain ⟨cur, h1, h2, h3, h4, h5, h6⟩ := hH.cells (hbs _ (List.mem_singleton.2 rfl)) hx
         refine ⟨x.b, i * x.k + c, rfl, fun j s hj => ?_⟩
         rw [cell_of_row w x.b _ cur ty (0, 0) h1, h3]
         rw [List.getElem?_take] at hj
         split at hj
         · rw [List.getElem?_drop] at hj
           exact h6 _ s hj
         · cases hj
     · cases e
   · next ty k len f hm =>
     split at e
     · next hc =>
       cases e
       have hc := Nat.le_of_ble_eq_true hc
       refine ⟨fun p hp => by simp at hp; subst hp; exact hm, rowAt_length .., fun M F ρ h w av hv hH hbs => ?_⟩
       cases hv with
       | ptr _ _ _ x hx =>
         obtain ⟨cur, h1, h2, h3, h4, h5, h6⟩ := hH.rows (hbs _ (List.mem_singleton.2 rfl)) (by omega) hx
         refine ⟨x.b, i * x.k + c, rfl, fun j s hj => ?_⟩
         obtain ⟨hj1, rfl⟩ := rowAt_get f i n c j s hj
         rw [cell_of_row w x.b _ cur ty (0, 0) h1, h3]
         obtain ⟨v, hv1, hv2⟩ := h6 i (c + j) hvc (by omega)
         exact ⟨v, by rw [← hv1]; congr 1; omega, .d _ _ hv2⟩
     · cases e
   · cases e
 · next k len f i c =>
   split at e
   · next hc =>
     cases e
     have hc := Nat.le_of_ble_eq_true hc
     refine ⟨fun p hp => by simp at hp, rowAt_length .., fun M F ρ h w av hv hH hbs => ?_⟩
     cases hv with
     | vp _ _ _ _ _ b o cur T fz g hb hg hr =>
       refine ⟨b, o + i * k + c, rfl, fun j s hj => ?_⟩
       obtain ⟨hj1, rfl⟩ := rowAt_get f i n c j s hj
       have := hH.imm b _ hb
       rw [cell_of_row w b _ cur T fz this]
       exact ⟨g i (c + j), by rw [← hg i (c + j) hvc (by omega)]; congr 1; omega, .d _ _ (hr i (c + j) hvc (by omega))⟩
   · cases e
 · cases e
def isAggB (P : Program) (t : TypeId) : Option Bool :=
 match P.underlying t with
 | some (.struct _) | some (.array _ _) => some true
 | some _ => some false
 | none => none
theorem run_isAgg {P : Program} {t : TypeId} {b : Bool} (h : isAggB P t = some b) (w : World) : (isAgg t).run P w = .ok b w := by
 unfold isAggB at h
 cases e : P.underlying t with
 | none => rw [e] at h; cases h
 | some d => cases d <;> rw [e] at h <;> cases h <;> simp [isAgg, run_underlying e]
def loadS (P : Program) (t : TypeId) (a : SV) (h : Heap) : Option (Prop × List (Nat × Blk) × SV) :=
 match isAggB P t with
 | some true =>
   match P.info? t with
   | some i => match cellsAt a h i.size with
     | some (vc, bs, ys) => some (vc, bs, .agg ys)
     | none => none
   | none => none
 | some false => match cellsAt a h 1 with
   | some (vc, bs, [y]) => some (vc, bs, y)
   | _ => none
 | none => none
theorem loadS_ok {P : Program} {t : TypeId} {a : SV} {h0 : Heap} {vc : Prop} {bs : List (Nat × Blk)} {u : SV} (e : loadS P t a h0 = some (vc, bs, u)) (hvc : vc) :
   (∀ p, p ∈ bs → h0 p.1 = some p.2) ∧ ∀ (M F : Imm) (ρ : Names) (h : Heap) (w : World) (av : Value), VR M ρ a av → HR M F ρ h w → (∀ p, p ∈ bs → h p.1 = some p.2) →
     ∃ v, (Instr.loadAt t av).run P w = .ok v w ∧ (∃ ad, av = .pointer (some ad) ∧ (loadVar t ad).run P w = .ok v w) ∧ VR M ρ u v := by
 unfold loadS at e
 split at e
 · next hagg =>
   split at e
   · next inf hinf =>
     split at e
     · next vc' bs' ys hc =>
       cases e
       obtain ⟨h1, h2, h3⟩ := cellsAt_ok hc hvc
       refine ⟨h1, fun M F ρ h w av hv hH hbs => ?_⟩
       obtain ⟨b, off, rfl, hcells⟩ := h3 M F ρ h w av hv hH hbs
       have hg : ∀ j, j < inf.size → ∃ v, w.cell? ⟨b, off + j, none⟩ = some v ∧ ∀ s, ys[j]? = some s → VR M ρ s v := by
         intro j hj
         have : ys[j]? = some (ys[j]'(by omega)) := List.getElem?_eq_getElem _
         obtain ⟨v, k1, k2⟩ := hcells j _ this
         exact ⟨v, k1, fun s hs => by rw [this] at hs; cases hs; exact k2⟩
       let g : Nat → Value := fun j => (w.cell? ⟨b, off + j, none⟩).getD undef
       have hgc : ∀ j, j < inf.size → w.cell? ⟨b, off + j, none⟩ = some (g j) := by
         intro j hj
         obtain ⟨v, k1, _⟩ := hg j hj
         simp [g, k1]
       have hl := run_loadCells (P := P) w ⟨b, off, none⟩ inf.size g (fun j hj => by rw [Addr.add_lit]; exact hgc j hj)
       have hrun : (loadVar t ⟨b, off, none⟩).run P w = .ok (.agg ((List.range inf.size).map g).toArray) w := by
         simp [loadVar, run_isAgg hagg, sizeOf, typeInfo, hinf, hl]
       refine ⟨_, by simp [Instr.loadAt, Instr.sureAddr, hrun], ⟨_, rfl, hrun⟩, .aggOf _ _ (by simp [h2]) fun i x hx => ?_⟩
       have hi : i < inf.size := by rw [← h2]; exact (List.getElem?_eq_some_iff.1 hx).1
       obtain ⟨v, k1, k2⟩ := hg i hi
       refine ⟨v, ?_, k2 x hx⟩
       simp [hi, g, k1]
     · cases e
   · cases e
 · next hagg =>
   split at e
   · next vc' bs' y hc =>
     cases e
     obtain ⟨h1, h2, h3⟩ := cellsAt_ok hc hvc
     refine ⟨h1, fun M F ρ h w av hv hH hbs => ?_⟩
     obtain ⟨b, off, rfl, hcells⟩ := h3 M F ρ h w av hv hH hbs
     obtain ⟨v, k1, k2⟩ := hcells 0 u rfl
     rw [Nat.add_zero] at k1
     have hrun : (loadVar t ⟨b, off, none⟩).run P w = .ok v w := by
       simp [loadVar, run_isAgg hagg, k1]
     exact ⟨v, by simp [Instr.loadAt, Instr.sureAddr, hrun], ⟨_, rfl, hrun⟩, k2⟩
   · cases e
 · cases e
/- stores -/
def flat : SV → Option (List SV)
 | .agg xs => some xs
 | .any | .tup _ => none
 | x => some [x]
def allOne : List SV → Bool
 | [] => true
 | x :: r => x.one && allOne r
theorem allOne_get : ∀ {xs : List SV}, allOne xs = true → ∀ (i : Nat) (x : SV), xs[i]? = some x → x.one = true
 | [], _, i, x, h => by simp at h
 | y :: r, h, 0, x, hx => by simp [allOne] at h hx; subst hx; exact h.1
 | y :: r, h, i + 1, x, hx => by simp [allOne] at h hx; exact allOne_get h.2 i x hx
theorem flat_ok {M : Imm} {ρ : Names} {x : SV} {v : Value} {ys : List SV} (h : VR M ρ x v) (e : flat x = some ys) (h1 : allOne ys = true) :
   v.cells.size = ys.length ∧ (∀ (i : Nat) (y : SV), ys[i]? = some y → ∃ u, v.cells[i]? = some u ∧ VR M ρ y u) ∧ ∀ u, u ∈ v.cells.toList → u.oneCell' = true := by
 have key : ∀ (vs : Array Value), vs.size = ys.length → (∀ (i : Nat) (y : SV), ys[i]? = some y → ∃ u, vs[i]? = some u ∧ VR M ρ y u) → ∀ u, u ∈ vs.toList → u.oneCell' = true := by
   intro vs hs hr u hu
   obtain ⟨i, hi⟩ := List.mem_iff_getElem?.1 hu
   have hlt : i < ys.length := by rw [← hs, ← Array.length_toList]; exact (List.getElem?_eq_some_iff.1 hi).1
   obtain ⟨u', k1, k2⟩ := hr i _ (List.getElem?_eq_getElem hlt)
   rw [Array.getElem?_toList] at hi
   rw [hi] at k1; cases k1
   exact k2.one (allOne_get h1 i _ (List.getElem?_eq_getElem hlt))
 have single : ∀ (z : SV), ys = [z] → v.cells = #[v] → VR M ρ z v → v.cells.size = ys.length ∧ (∀ (i : Nat) (y : SV), ys[i]? = some y → ∃ u, v.cells[i]? = some u ∧ VR M ρ y u) ∧ ∀ u, u ∈ v.cells.toList → u.oneCell' = true := by
   intro z hz hc hr
   have a : v.cells.size = ys.length := by rw [hz, hc]; rfl
   have b : ∀ (i : Nat) (y : SV), ys[i]? = some y → ∃ u, v.cells[i]? = some u ∧ VR M ρ y u := by
     intro i y hy
     rw [hz] at hy
     cases i with
     | zero => simp at hy; subst hy; exact ⟨v, by rw [hc]; rfl, hr⟩
     | succ i => simp at hy
   exact ⟨a, b, key _ a b⟩
 cases h with
 | any => cases e
 | d z v hd => cases e; exact single _ rfl (by have := hd.one; cases v <;> first | rfl | (simp [Value.oneCell'] at this)) (.d _ _ hd)
 | vp k len f i c b o cur T fz g hb hg hr => cases e; exact single _ rfl rfl (.vp _ _ _ _ _ b o cur T fz g hb hg hr)
 | ptr n i c x h => cases e; exact single _ rfl rfl (.ptr _ _ _ _ h)
 | sl n o len x h hl hR h0 => cases e; exact single _ rfl rfl (.sl _ _ _ _ h hl hR h0)
 | sl0 n o x h hR a => cases e; exact single _ rfl rfl (.sl0 _ _ _ h hR _)
 | cs n c len x cap h hc => cases e; exact single _ rfl rfl (.cs _ _ _ _ _ h hc)
 | opY n x h => cases e; exact single _ rfl rfl (.opY _ _ h)
 | opN n => cases e; exact single _ rfl rfl (.opN _)
 | map n x h => cases e; exact single _ rfl rfl (.map _ _ h)
 | fn f caps vs g hs hg hr => cases e; exact single _ rfl rfl (.fn _ _ _ g hs hg hr)
 | agg xs vs g hs hg hr =>
   cases e
   have b : ∀ (i : Nat) (y : SV), ys[i]? = some y → ∃ u, vs[i]? = some u ∧ VR M ρ y u := fun i y hy => ⟨g i, hg i (List.getElem?_eq_some_iff.1 hy).1, hr i y hy⟩
   exact ⟨hs, b, key vs hs b⟩
 | tup => cases e
 | iface t z v hz => cases e; exact single _ rfl rfl (.iface _ _ _ hz)
def dOf : List SV → Option (List D)
 | [] => some []
 | .d x :: r => (dOf r).map (x :: ·)
 | _ => none
def updR (f : Nat → Nat → D) (i c : Nat) (ds : List D) : Nat → Nat → D := fun i' c' =>
 if i' = i ∧ c ≤ c' ∧ c' < c + ds.length then ds.getD (c' - c) .any else f i' c'
theorem dOf_get : ∀ {ys : List SV} {ds : List D}, dOf ys = some ds → ds.length = ys.length ∧ ∀ (j : Nat) (x : D), ds[j]? = some x → ys[j]? = some (.d x)
 | [], ds, h => by simp [dOf] at h; subst h; simp
 | .d x :: r, ds, h => by
   simp only [dOf, Option.map_eq_some_iff] at h
   obtain ⟨ds', h1, rfl⟩ := h
   obtain ⟨k1, k2⟩ := dOf_get h1
   refine ⟨by simp [k1], fun j y hj => ?_⟩
   cases j with
   | zero => simp at hj; subst hj; rfl
   | succ j => simp at hj ⊢; exact k2 j y hj
 | .any :: r, ds, h => by simp [dOf] at h
 | .vp .. :: r, ds, h => by simp [dOf] at h
 | .ptr .. :: r, ds, h => by simp [dOf] at h
 | .sl .. :: r, ds, h => by simp [dOf] at h
 | .cs .. :: r, ds, h => by simp [dOf] at h
 | .op .. :: r, ds, h => by simp [dOf] at h
 | .map .. :: r, ds, h => by simp [dOf] at h
 | .fn .. :: r, ds, h => by simp [dOf] at h
 | .agg .. :: r, ds, h => by simp [dOf] at h
 | .tup .. :: r, ds, h => by simp [dOf] at h
 | .iface .. :: r, ds, h => by simp [dOf] at h
def storeAtS (a : SV) (ys : List SV) (h : Heap) : Option (Prop × List (Nat × Blk) × List (Nat × Option Blk)) :=
 match a with
 | .ptr m i c =>
   match h m with
   | some (.cells ty k xs) =>
     if Nat.ble (i * k + c + ys.length) xs.length then some (True, [(m, .cells ty k xs)], [(m, some (.cells ty k (xs.take (i * k + c) ++ ys ++ xs.drop (i * k + c + ys.length))))]) else none
   | some (.rows ty k len f) =>
     if Nat.ble (c + ys.length) k then
       match dOf ys with
       | some ds => some (i < len, [(m, .rows ty k len f)], [(m, some (.rows ty k len (updR f i c ds)))])
       | none => none
     else none
   | _ => none
 | _ => none
theorem seg_get {α : Type} (l vs : List α) (o j : Nat) (h : o + vs.length ≤ l.length) : (l.take o ++ vs ++ l.drop (o + vs.length))[j]? = if j < o then l[j]? else if j < o + vs.length then vs[j - o]? else l[j]? := by
 have ho : (l.take o).length = o := by rw [List.length_take]; omega
 by_cases h1 : j < o
 · rw [if_pos h1, List.append_assoc, List.getElem?_append_left (by omega), List.getElem?_take, if_pos h1]
 · rw [if_neg h1]
   by_cases h2 : j < o + vs.length
   · rw [if_pos h2, List.append_assoc, List.getElem?_append_right (by omega), ho, List.getElem?_append_left (by omega)]
   · rw [if_neg h2, List.getElem?_append_right (by rw [List.length_append, ho]; omega), List.length_append, ho, List.getElem?_drop]
     congr 1; omega
theorem storeAtS_ok {P : Program} {a : SV} {ys : List SV} {h0 : Heap} {vc : Prop} {bs : List (Nat × Blk)} {wr : List (Nat × Option Blk)} (e : storeAtS a ys h0 = some (vc, bs, wr)) (hvc : vc) :
   (∀ p, p ∈ bs → h0 p.1 = some p.2) ∧ (∀ nm, keysIn bs nm wr = true) ∧ ∀ (M F : Imm) (ρ : Names) (h : Heap) (w : World) (av : Value) (vs : Array Value), VR M ρ a av → HR M F ρ h w → (∀ p, p ∈ bs → h p.1 = some p.2) →
     vs.size = ys.length → (∀ (i : Nat) (y : SV), ys[i]? = some y → ∃ u, vs[i]? = some u ∧ VR M ρ y u) → (∀ u, u ∈ vs.toList → u.oneCell' = true) →
     ∃ ad w', av = .pointer (some ad) ∧ (storeCells ad vs.toList).run P w = .ok () w' ∧ HR M F ρ (wrH h wr) w' ∧ Same w w' := by
 have same : ∀ (w : World) (b : Nat) (cs : Array Value), Same w (w.setRow b cs) := fun w b cs => ⟨rfl, rfl, rfl, by simp⟩
 unfold storeAtS at e
 split at e
 · next m i c =>
   split at e
   · next ty k xs hm =>
     split at e
     · next hl =>
       cases e
       have hl := Nat.le_of_ble_eq_true hl
       refine ⟨fun p hp => by simp at hp; subst hp; exact hm, fun nm => by simp [keysIn], fun M F ρ h w av vs hv hH hbs hsz hrel h1 => ?_⟩
       cases hv with
       | ptr _ _ _ x hx =>
         have hm' := hbs _ (List.mem_singleton.2 rfl)
         obtain ⟨cur, k1, k2, k3, k4, k5, k6⟩ := hH.cells hm' hx
         subst k3
         have hfit : i * x.k + c + vs.toList.length ≤ cur.size := by rw [Array.length_toList, hsz]; omega
         have hst := run_storeCells_at P x.b (i * x.k + c) ty vs.toList 0 cur w k1 (by rw [Nat.add_zero]; exact hfit) h1
         rw [Nat.add_zero] at hst
         refine ⟨_, _, rfl, hst, ?_, same _ _ _⟩
         refine hH.put m x (by rw [hm']; simp) hx k2 _ _ (setRow_heap w x.b cur _ ty (0, 0) k1) (fun b hb => setRow_other w x.b b _ hb) ?_
         have hlen : vs.toList.length = ys.length := by rw [Array.length_toList, hsz]
         refine ⟨rfl, rfl, rfl, ?_, ?_, fun j s hs => ?_⟩
         · simp only [List.size_toArray, List.length_append, List.length_take, List.length_drop, Array.length_toList]
           rw [← k4]
           simp only [Array.length_toList] at hfit; omega
         · simp only [List.size_toArray, List.length_append, List.length_take, List.length_drop, Array.length_toList]
           rw [hsz]; omega
         · rw [seg_get _ _ _ _ hl] at hs
           rw [List.getElem?_toArray, seg_get _ _ _ _ (by rw [Array.length_toList]; exact hfit), hlen]
           split
           · next hj => rw [if_pos hj] at hs; rw [Array.getElem?_toList]; exact k6 j s hs
           · next hj =>
             rw [if_neg hj] at hs
             split
             · next hj2 => rw [if_pos hj2] at hs; rw [Array.getElem?_toList]; exact hrel _ s hs
             · next hj2 => rw [if_neg hj2] at hs; rw [Array.getElem?_toList]; exact k6 j s hs
     · cases e
   · next ty k len f hm =>
     split at e
     · next hc =>
       split at e
       · next ds hds =>
         cases e
         have hc := Nat.le_of_ble_eq_true hc
         refine ⟨fun p hp => by simp at hp; subst hp; exact hm, fun nm => by simp [keysIn], fun M F ρ h w av vs hv hH hbs hsz hrel h1 => ?_⟩
         cases hv with
         | ptr _ _ _ x hx =>
           have hm' := hbs _ (List.mem_singleton.2 rfl)
           obtain ⟨cur, k1, k2, k3, k4, k5, k6⟩ := hH.rows hm' (by omega) hx
           subst k3
           obtain ⟨d1, d2⟩ := dOf_get hds
           have hrow : (i + 1) * x.k ≤ x.R * x.k := Nat.mul_le_mul_right _ (by omega)
           have hfit : i * x.k + c + vs.toList.length ≤ cur.size := by
             rw [Array.length_toList, hsz, k4]
             rw [Nat.succ_mul] at hrow; omega
           have hst := run_storeCells_at P x.b (i * x.k + c) ty vs.toList 0 cur w k1 (by rw [Nat.add_zero]; exact hfit) h1
           rw [Nat.add_zero] at hst
           refine ⟨_, _, rfl, hst, ?_, same _ _ _⟩
           refine hH.put m x (by rw [hm']; simp) hx k2 _ _ (setRow_heap w x.b cur _ ty (0, 0) k1) (fun b hb => setRow_other w x.b b _ hb) ?_
           have hlen : vs.toList.length = ys.length := by rw [Array.length_toList, hsz]
           refine ⟨rfl, rfl, rfl, ?_, k5, fun i' c' hi' hc' => ?_⟩
           · simp only [List.size_toArray, List.length_append, List.length_take, List.length_drop, Array.length_toList]
             rw [← k4]
             simp only [Array.length_toList] at hfit; omega
           · rw [List.getElem?_toArray, seg_get _ _ _ _ (by rw [Array.length_toList]; exact hfit), hlen]
             unfold updR
             by_cases hin : i' = i ∧ c ≤ c' ∧ c' < c + ds.length
             · rw [if_pos hin]
               obtain ⟨rfl, g1, g2⟩ := hin
               rw [if_neg (by omega), if_pos (by omega), Array.getElem?_toList]
               have hd : ds[c' - c]? = some (ds[c' - c]'(by omega)) := List.getElem?_eq_getElem _
               obtain ⟨u, u1, u2⟩ := hrel (c' - c) _ (d2 _ _ hd)
               refine ⟨u, by rw [← u1]; congr 1; omega, ?_⟩
               rw [List.getD_eq_getElem?_getD, hd]
               cases u2 with | d _ _ h => exact h
             · rw [if_neg hin]
               have hne : i' * x.k + c' < i * x.k + c ∨ i * x.k + c + ys.length ≤ i' * x.k + c' := by
                 rcases Nat.lt_trichotomy i' i with hlt | heq | hgt
                 · left
                   have : (i' + 1) * x.k ≤ i * x.k := Nat.mul_le_mul_right _ hlt
                   rw [Nat.succ_mul] at this; omega
                 · subst heq
                   rw [d1] at hin
                   omega
                 · right
                   have : (i + 1) * x.k ≤ i' * x.k := Nat.mul_le_mul_right _ hgt
                   rw [Nat.succ_mul] at this; omega
               rcases hne with hne | hne
               · rw [if_pos hne, Array.getElem?_toList]; exact k6 i' c' hi' hc'
               · rw [if_neg (by omega), if_neg (by omega), Array.getElem?_toList]; exact k6 i' c' hi' hc'
       · cases e
     · cases e
   · cases e
 · cases e
def storeS (P : Program) (t : TypeId) (a x : SV) (h : Heap) : Option Out :=
 match P.info? t with
 | some i =>
   match flat x with
   | some ys => if Nat.beq ys.length i.size && allOne ys then
       match storeAtS a ys h with
       | some (vc, bs, wr) => some (vc, bs, .any, wr)
       | none => none
     else none
   | none => none
 | none => none
theorem mem_ops2 {x y z : Operand} (h : z = x ∨ z = y) : z ∈ (#[x, y] : Array Operand) := by
 rcases h with rfl | rfl <;> simp
theorem storeS_ok {C : Ctx} {o : Oper} {nm : Nat} {v : Operand → SV} {h : Heap} {x : Out} {t : TypeId} {a y : Operand} (ho : o.op = .store t a y) (e : storeS C.P t (v a) (v y) h = some x) : Sound C o nm v h x := by
 unfold storeS at e
 split at e
 next i hi =>
   split at e
   next ys hys =>
     split at e
     next hc =>
       split at e
       next vc bs wr hst =>
         cases e
         intro hvc
         simp only [Bool.and_eq_true] at hc
         have hlen := Nat.eq_of_beq_eq_true hc.1
         obtain ⟨h1, h2, h3⟩ := storeAtS_ok (P := C.P) hst hvc
         refine ⟨ok_skip fun M F ρ a' h w hv hH hbs hfr => ?_, h1, h2 nm⟩
         have va := hv a (by rw [ho]; exact mem_ops2 (.inl rfl))
         have vy := hv y (by rw [ho]; exact mem_ops2 (.inr rfl))
         obtain ⟨f1, f2, f3⟩ := flat_ok vy hys hc.2
         obtain ⟨ad, w', g1, g2, g3, g4⟩ := h3 M F ρ h w _ _ va hH hbs f1 f2 f3
         refine ⟨ρ, w', Names.le_refl _, fun _ _ => rfl, ?_, g3, g4⟩
         have hs : (a'.eval y).cells.size = i.size := by rw [f1, hlen]
         simp [execOp, ho, Instr.storeAt, g1, Instr.sureAddr, storeVar, sizeOf, typeInfo, hi, hs, g2]
       · cases e
     · cases e
   · cases e
 · cases e
def loadOp (P : Program) (t : TypeId) (a : SV) (h : Heap) : Option Out :=
 match loadS P t a h with
 | some (vc, bs, u) => some (vc, bs, u, [])
 | none => none
theorem loadOp_ok {C : Ctx} {o : Oper} {nm : Nat} {v : Operand → SV} {h : Heap} {x : Out} {t : TypeId} {a : Operand} (ho : o.op = .load t a) (e : loadOp C.P t (v a) h = some x) : Sound C o nm v h x := by
 unfold loadOp at e
 split at e
 next vc bs u hl =>
   cases e
   intro hvc
   obtain ⟨h1, h2⟩ := loadS_ok hl hvc
   refine ⟨ok_pure fun M F ρ a' h w hv hH hbs => ?_, h1, rfl⟩
   obtain ⟨u', k1, _, k2⟩ := h2 M F ρ h w _ (hv a (by rw [ho]; simp [Op.operands])) hH hbs
   exact ⟨u', by simp [execOp, ho, k1], k2⟩
 · cases e
end Go.Proofs.YtpdojmebloekgaaDoor.Nice
namespace Go.Proofs.YtpdojmebloekgaaDoor.Nice
open Go
set_option linter.unusedVariables false
theorem mem_ops1 {x : Operand} : x ∈ (#[x] : Array Operand) := by simp
def moveS (u : SV) : Out := (True, [], u, [])
theorem move_ok {C : Ctx} {o : Oper} {nm : Nat} {v : Operand → SV} {h : Heap} {y : Operand} (ho : o.op = .move y ∨ o.op = .assign y) : Sound C o nm v h (moveS (v y)) := by
 intro _
 refine ⟨ok_pure fun M F ρ a h w hv hH _ => ⟨a.eval y, ?_, ?_⟩, fun p hp => by simp [moveS] at hp, rfl⟩
 · rcases ho with ho | ho <;> simp [execOp, ho]
 · rcases ho with ho | ho <;> exact hv y (by rw [ho]; exact mem_ops1)
def pickS (c a b : SV) : Option Out :=
 match c with
 | .d (.val (.bool true)) => some (True, [], a, [])
 | .d (.val (.bool false)) => some (True, [], b, [])
 | _ => none
theorem pick_ok {C : Ctx} {o : Oper} {nm : Nat} {v : Operand → SV} {h : Heap} {x : Out} {c a b : Operand} (ho : o.op = .pick c a b) (e : pickS (v c) (v a) (v b) = some x) : Sound C o nm v h x := by
 have m : ∀ y, y = c ∨ y = a ∨ y = b → y ∈ o.op.operands := by
   intro y hy; rw [ho]; rcases hy with rfl | rfl | rfl <;> simp [Op.operands]
 unfold pickS at e
 split at e
 · next hc =>
   cases e
   intro _
   refine ⟨ok_pure fun M F ρ a' h w hv hH _ => ⟨a'.eval a, ?_, hv a (m a (.inr (.inl rfl)))⟩, fun p hp => by simp at hp, rfl⟩
   have := hv c (m c (.inl rfl)); rw [hc] at this
   simp [execOp, ho, this.val, asBool]
 · next hc =>
   cases e
   intro _
   refine ⟨ok_pure fun M F ρ a' h w hv hH _ => ⟨a'.eval b, ?_, hv b (m b (.inr (.inr rfl)))⟩, fun p hp => by simp at hp, rfl⟩
   have := hv c (m c (.inl rfl)); rw [hc] at this
   simp [execOp, ho, this.val, asBool]
 · cases e
/- new variables -/
def toSV : Value → SV
 | .slice none 0 0 => .d .nils
 | v => .d (.val v)
theorem toSV_ok {M : Imm} {ρ : Names} {v : Value} (h : v.oneCell' = true) : VR M ρ (toSV v) v := by
 cases v with
 | slice a l c =>
   cases a with
   | none => cases l with
     | zero => cases c with
       | zero => exact .d _ _ (.nils _)
       | succ c => exact .d _ _ (.val _ rfl)
     | succ l => exact .d _ _ (.val _ rfl)
   | some a => exact .d _ _ (.val _ rfl)
 | agg _ => simp [Value.oneCell'] at h
 | tuple _ => simp [Value.oneCell'] at h
 | _ => exact .d _ _ (.val _ rfl)
def toSVs : List Value → List SV
 | [] => []
 | v :: r => toSV v :: toSVs r
theorem toSVs_length : ∀ l, (toSVs l).length = l.length
 | [] => rfl
 | v :: r => by simp [toSVs, toSVs_length r]
theorem toSVs_get : ∀ (l : List Value) (i : Nat), (toSVs l)[i]? = (l[i]?).map toSV
 | [], i => by simp [toSVs]
 | v :: r, 0 => by simp [toSVs]
 | v :: r, i + 1 => by simp [toSVs, toSVs_get r i]
def zerosOf (P : Program) (t : TypeId) : Option (List Value) :=
 match P.info? t with
 | some i => match i.zero with
   | some z => if Nat.beq z.cells.toList.length i.size && z.cells.toList.all Value.oneCell' then some z.cells.toList else none
   | none => none
 | none => none
theorem zerosOf_ok {P : Program} {t : TypeId} {l : List Value} (h : zerosOf P t = some l) : ∃ i z, P.info? t = some i ∧ i.zero = some z ∧ z.cells.toList = l ∧ l.length = i.size ∧ ∀ u, u ∈ l → u.oneCell' = true := by
 unfold zerosOf at h
 split at h
 · next i hi =>
   split at h
   · next z hz =>
     split at h
     · next hc =>
       cases h
       simp only [Bool.and_eq_true, List.all_eq_true] at hc
       exact ⟨i, z, hi, hz, rfl, Nat.eq_of_beq_eq_true hc.1, hc.2⟩
     · cases h
   · cases h
 · cases h
theorem new_block {M F : Imm} {ρ : Names} {h : Heap} {w : World} (hH : HR M F ρ h w) {nm : Nat} (hfr : ∀ n, nm ≤ n → n < nm + 8 → ρ n = none) (k R : Nat) (hR : 0 < R) (blk : Blk) (obj : Obj)
   (hB : ∀ ρ' : Names, ρ.le ρ' → BR M ρ' ⟨w.heap.size, k, R⟩ blk obj) (hfm : ∀ S es, blk ≠ .fam S es := by intro S es h; cases h) :
   ∃ ρ' : Names, ρ.le ρ' ∧ (∀ n, n < nm ∨ nm + 8 ≤ n → ρ' n = ρ n) ∧ ρ' nm = some ⟨w.heap.size, k, R⟩ ∧ HR M F ρ' (upd h nm (some blk)) (w.alloc obj) := by
 obtain ⟨ρ', rfl, h1, h2⟩ := hH.push nm (hfr nm (Nat.le_refl _) (by omega)) k R hR blk obj hH.beyond hB hfm
 refine ⟨_, h1, fun n hn => ?_, by simp, h2⟩
 have : n ≠ nm := by omega
 simp [this]
def allocS (P : Program) (nm : Nat) (t : TypeId) : Option Out :=
 match zerosOf P t with
 | some l => some (True, [], .ptr nm 0 0, [(nm, some (.cells t l.length (toSVs l)))])
 | none => none
theorem alloc_ok {C : Ctx} {o : Oper} {nm : Nat} {v : Operand → SV} {h : Heap} {x : Out} {t : TypeId} (ho : o.op = .alloc t) (e : allocS C.P nm t = some x) : Sound C o nm v h x := by
 unfold allocS at e
 split at e
 · next l hl =>
   cases e
   intro _
   obtain ⟨i, z, hi, hz, hzl, hlen, hone⟩ := zerosOf_ok hl
   refine ⟨ok_value fun M F ρ a h w hv hH _ hfr => ?_, fun p hp => by simp at hp, by simp [keysIn]⟩
   have hsz : z.cells.size = l.length := by rw [← hzl, Array.length_toList]
   obtain ⟨ρ', k1, k2, k3, k4⟩ := new_block hH hfr l.length 1 (by omega) (.cells t l.length (toSVs l)) (.cells z.cells t) (by
     intro ρ' hρ'
     refine ⟨rfl, rfl, rfl, by simp [hsz], by rw [toSVs_length, hsz]; exact Nat.le_refl _, fun j s hs => ?_⟩
     rw [toSVs_get] at hs
     cases hj : l[j]? with
     | none => rw [hj] at hs; cases hs
     | some u =>
       rw [hj] at hs; cases hs
       refine ⟨u, by rw [← hj, ← hzl, Array.getElem?_toList], toSV_ok (hone u (List.mem_of_getElem? hj))⟩)
   refine ⟨ρ', .pointer (some ⟨w.heap.size, 0, none⟩), _, k1, k2, ?_, ?_, k4, Same.alloc _ _⟩
   · simp [execOp, ho, Instr.alloc, zeroValue, typeInfo, hi, hz, newVar, newRow]
   · have := VR.ptr (M := M) nm 0 0 _ k3
     simpa using this
 · cases e
def boxS (nm : Nat) (t : TypeId) (x : SV) : Option Out :=
 match flat x with
 | some ys => if allOne ys then some (True, [], .ptr nm 0 0, [(nm, some (.cells t ys.length ys))]) else none
 | none => none
theorem box_ok {C : Ctx} {o : Oper} {nm : Nat} {v : Operand → SV} {h : Heap} {x : Out} {t : TypeId} {y : Operand} (ho : o.op = .box t y) (e : boxS nm t (v y) = some x) : Sound C o nm v h x := by
 unfold boxS at e
 split at e
 · next ys hys =>
   split at e
   · next h1 =>
     cases e
     intro _
     refine ⟨ok_value fun M F ρ a h w hv hH _ hfr => ?_, fun p hp => by simp at hp, by simp [keysIn]⟩
     obtain ⟨f1, f2, f3⟩ := flat_ok (hv y (by rw [ho]; exact mem_ops1)) hys h1
     obtain ⟨ρ', k1, k2, k3, k4⟩ := new_block hH hfr ys.length 1 (by omega) (.cells t ys.length ys) (.cells (a.eval y).cells t) (by
       intro ρ' hρ'
       exact ⟨rfl, rfl, rfl, by simp [f1], by rw [f1]; exact Nat.le_refl _, fun j s hs => let ⟨u, u1, u2⟩ := f2 j s hs; ⟨u, u1, u2.mono (Imm.le_refl _) hρ'⟩⟩)
     refine ⟨ρ', .pointer (some ⟨w.heap.size, 0, none⟩), _, k1, k2, ?_, ?_, k4, Same.alloc _ _⟩
     · simp [execOp, ho, Instr.box, newVar, newRow]
     · have := VR.ptr (M := M) nm 0 0 _ k3
       simpa using this
   · cases e
 · cases e
/- values of structs -/
def fillS (places : List (Nat × Nat)) : List SV → List (Nat × SV) → Option (List SV)
 | xs, [] => some xs
 | xs, (i, x) :: r =>
   match places[i]?, flat x with
   | some (off, size), some ys => if Nat.beq ys.length size && (Nat.ble (off + ys.length) xs.length && allOne ys) then fillS places (xs.take off ++ ys ++ xs.drop (off + ys.length)) r else none
   | _, _ => none
def RL (M : Imm) (ρ : Names) (xs : List SV) (vs : Array Value) : Prop := vs.size = xs.length ∧ ∀ (i : Nat) (x : SV), xs[i]? = some x → ∃ u, vs[i]? = some u ∧ VR M ρ x u
theorem foldl_put (off : Nat) : ∀ (l : List Value) (j0 : Nat) (cs : Array Value), off + j0 + l.length ≤ cs.size →
   ((l.zipIdx j0).foldl (fun cs (p : Value × Nat) => cs.setIfInBounds (off + p.2) p.1) cs) = (cs.toList.take (off + j0) ++ l ++ cs.toList.drop (off + j0 + l.length)).toArray
 | [], j0, cs, _ => by simp
 | v :: r, j0, cs, h => by
   simp only [List.zipIdx_cons, List.foldl_cons]
   rw [foldl_put off r (j0 + 1) _ (by simp at h ⊢; omega)]
   have e := list_seg_step cs.toList (off + j0) v r (by simp at h ⊢; omega)
   congr 1
   simpa [Array.toList_setIfInBounds, Nat.add_assoc] using e
theorem fill_ok {M : Imm} {ρ : Names} (places : List (Nat × Nat)) (place : Nat → Option (Nat × Nat)) (hp : ∀ i, place i = places[i]?) : ∀ (parts : List (Nat × SV)) (vparts : List (Nat × Value)) (xs zs : List SV) (vs : Array Value),
   vparts.length = parts.length → (∀ (j i : Nat) (x : SV), parts[j]? = some (i, x) → ∃ u, vparts[j]? = some (i, u) ∧ VR M ρ x u) → RL M ρ xs vs → fillS places xs parts = some zs →
   ∃ us, Instr.fill place vs vparts = some us ∧ RL M ρ zs us
 | [], [], xs, zs, vs, _, _, hr, e => by simp [fillS] at e; subst e; exact ⟨vs, rfl, hr⟩
 | [], _ :: _, _, _, _, hl, _, _, _ => by simp at hl
 | _ :: _, [], _, _, _, hl, _, _, _ => by simp at hl
 | (i, x) :: parts, (i', u) :: vparts, xs, zs, vs, hl, hrel, hr, e => by
   obtain ⟨u', h1, h2⟩ := hrel 0 i x rfl
   simp at h1
   obtain ⟨rfl, rfl⟩ := h1
   simp only [fillS] at e
   split at e
   · next off size ys hpl hys =>
     split at e
     · next hc =>
       simp only [Bool.and_eq_true] at hc
       have c1 := Nat.eq_of_beq_eq_true hc.1
       have c2 := Nat.le_of_ble_eq_true hc.2.1
       obtain ⟨f1, f2, f3⟩ := flat_ok h2 hys hc.2.2
       have hfit : off + 0 + u.cells.toList.length ≤ vs.size := by rw [Array.length_toList, f1, hr.1]; omega
       have hnew : RL M ρ (xs.take off ++ ys ++ xs.drop (off + ys.length)) (vs.toList.take off ++ u.cells.toList ++ vs.toList.drop (off + u.cells.toList.length)).toArray := by
         have hlen : u.cells.toList.length = ys.length := by rw [Array.length_toList, f1]
         refine ⟨?_, fun j s hs => ?_⟩
         · simp only [List.size_toArray, List.length_append, List.length_take, List.length_drop, Array.length_toList, hr.1]
           rw [f1]
         · rw [seg_get _ _ _ _ c2] at hs
           rw [List.getElem?_toArray, seg_get _ _ _ _ (by rw [Array.length_toList]; simpa using hfit), hlen]
           split
           · next hj => rw [if_pos hj] at hs; rw [Array.getElem?_toList]; exact hr.2 j s hs
           · next hj =>
             rw [if_neg hj] at hs
             split
             · next hj2 => rw [if_pos hj2] at hs; rw [Array.getElem?_toList]; exact f2 _ s hs
             · next hj2 => rw [if_neg hj2] at hs; rw [Array.getElem?_toList]; exact hr.2 j s hs
       obtain ⟨us, g1, g2⟩ := fill_ok places place hp parts vparts _ zs _ (by simpa using hl) (fun j k y hy => hrel (j + 1) k y (by simpa using hy)) hnew e
       refine ⟨us, ?_, g2⟩
       have hcond : ¬ (u.cells.size ≠ size ∨ off + u.cells.size > vs.size) := by rw [f1, c1, hr.1]; omega
       simp only [Instr.fill, hp, hpl]
       rw [if_neg (by simpa using hcond)]
       rw [← g1]
       congr 1
       have := foldl_put off u.cells.toList 0 vs hfit
       simp only [Nat.add_zero] at this
       rw [← this, ← Array.foldl_toList, Array.toList_zipIdx]
     · cases e
   · cases e
def placesOf (P : Program) : List Field → Option (List (Nat × Nat))
 | [] => some []
 | f :: r => match P.info? f.type, placesOf P r with
   | some i, some l => some ((f.offset, i.size) :: l)
   | _, _ => none
def svParts (v : Operand → SV) : List (Nat × Operand) → List (Nat × SV)
 | [] => []
 | (i, x) :: r => (i, v x) :: svParts v r
theorem svParts_get {v : Operand → SV} : ∀ (l : List (Nat × Operand)) (j i : Nat) (s : SV), (svParts v l)[j]? = some (i, s) → ∃ x, l[j]? = some (i, x) ∧ s = v x
 | [], j, i, s, h => by simp [svParts] at h
 | (k, x) :: r, 0, i, s, h => by simp [svParts] at h; exact ⟨x, by simp [h.1], h.2.symm⟩
 | (k, x) :: r, j + 1, i, s, h => by simp [svParts] at h; obtain ⟨y, h1, h2⟩ := svParts_get r j i s h; exact ⟨y, by simpa using h1, h2⟩
theorem svParts_length {v : Operand → SV} : ∀ (l : List (Nat × Operand)), (svParts v l).length = l.length
 | [] => rfl
 | (k, x) :: r => by simp [svParts, svParts_length r]
theorem run_places {P : Program} {w : World} : ∀ (fs : List Field) (l : List (Nat × Nat)), placesOf P fs = some l → ((fs.mapM fun f => do pure (f.offset, ← sizeOf f.type) : Sem (List (Nat × Nat)))).run P w = .ok l w
 | [], l, h => by simp [placesOf] at h; subst h; rfl
 | f :: r, l, h => by
   simp only [placesOf] at h
   split at h
   · next i l' hi hl' =>
     cases h
     have ih := run_places (w := w) r l' hl'
     have h1 : (do pure (f.offset, ← sizeOf f.type) : Sem (Nat × Nat)).run P w = .ok (f.offset, i.size) w := by simp [sizeOf, typeInfo, hi]
     simp only [List.mapM_cons, Sem.run_bind, h1, ih, Result.andThen_ok, Sem.run_pure]
   · cases h
def buildS (P : Program) (t : TypeId) (parts : List (Nat × SV)) : Option Out :=
 match P.underlying t with
 | some (.struct fs) =>
   match zerosOf P t, placesOf P fs.toList with
   | some z, some pl => match fillS pl (toSVs z) parts with
     | some xs => some (True, [], .agg xs, [])
     | none => none
   | _, _ => none
 | _ => none
theorem mem_build {parts : Array (Nat × Operand)} {i : Nat} {x : Operand} (h : (i, x) ∈ parts.toList) (t : TypeId) : x ∈ (Op.build t parts).operands := by
 simp only [Op.operands]
 rw [List.mem_toArray]
 exact List.mem_map.2 ⟨(i, x), h, rfl⟩
theorem parts_rel {M : Imm} {ρ : Names} {a : Act} {v : Operand → SV} {parts : Array (Nat × Operand)} (hv : ∀ i x, (i, x) ∈ parts.toList → VR M ρ (v x) (a.eval x)) :
   (parts.map fun (i, x) => (i, a.eval x)).toList.length = (svParts v parts.toList).length ∧
   ∀ (j i : Nat) (s : SV), (svParts v parts.toList)[j]? = some (i, s) → ∃ u, (parts.map fun (i, x) => (i, a.eval x)).toList[j]? = some (i, u) ∧ VR M ρ s u := by
 refine ⟨by simp [svParts_length], fun j i s hj => ?_⟩
 obtain ⟨x, h1, rfl⟩ := svParts_get _ j i s hj
 refine ⟨a.eval x, ?_, hv i x (List.mem_of_getElem? h1)⟩
 rw [Array.getElem?_toList] at h1
 simp [h1]
theorem toSVs_RL {M : Imm} {ρ : Names} {l : List Value} {vs : Array Value} (hl : vs.toList = l) (h1 : ∀ u, u ∈ l → u.oneCell' = true) : RL M ρ (toSVs l) vs := by
 refine ⟨by rw [toSVs_length, ← hl, Array.length_toList], fun i x hx => ?_⟩
 rw [toSVs_get] at hx
 cases hj : l[i]? with
 | none => rw [hj] at hx; cases hx
 | some u =>
   rw [hj] at hx; cases hx
   exact ⟨u, by rw [← hj, ← hl, Array.getElem?_toList], toSV_ok (h1 u (List.mem_of_getElem? hj))⟩
theorem RL.agg {M : Imm} {ρ : Names} {xs : List SV} {vs : Array Value} (h : RL M ρ xs vs) : VR M ρ (.agg xs) (.agg vs) := .aggOf xs vs h.1 h.2
theorem build_ok {C : Ctx} {o : Oper} {nm : Nat} {v : Operand → SV} {h : Heap} {x : Out} {t : TypeId} {parts : Array (Nat × Operand)} (ho : o.op = .build t parts) (e : buildS C.P t (svParts v parts.toList) = some x) : Sound C o nm v h x := by
 unfold buildS at e
 split at e
 · next fs hfs =>
   split at e
   · next z pl hz hpl =>
     split at e
     · next xs hxs =>
       cases e
       intro _
       refine ⟨ok_pure fun M F ρ a h w hv hH _ => ?_, fun p hp => by simp at hp, rfl⟩
       obtain ⟨i, zv, hi, hzv, hzl, hlen, hone⟩ := zerosOf_ok hz
       obtain ⟨p1, p2⟩ := parts_rel (M := M) (ρ := ρ) (a := a) (v := v) (parts := parts) (fun i x hx => hv x (by rw [ho]; exact mem_build hx t))
       obtain ⟨us, g1, g2⟩ := fill_ok (M := M) (ρ := ρ) pl (pl.toArray[·]?) (fun i => by simp) (svParts v parts.toList) _ (toSVs z) xs zv.cells p1 p2 (toSVs_RL hzl hone) hxs
       refine ⟨.agg us, ?_, g2.agg⟩
       have hm : (fs.mapM fun f => do pure (f.offset, ← sizeOf f.type) : Sem (Array (Nat × Nat))).run C.P w = .ok pl.toArray w := by
         rw [Array.mapM_eq_mapM_toList]
         simp only [Sem.run_map, run_places fs.toList pl hpl, Result.andThen_ok]
       simp only [execOp, ho, Instr.build, zeroValue, typeInfo, Sem.run_bind, run_program, Result.andThen_ok, hi, Sem.run_pure, hzv, run_underlying hfs, hm, g1]
     · cases e
   · cases e
 · cases e
def repS (z : List SV) : Nat → List SV
 | 0 => []
 | n + 1 => z ++ repS z n
def unitPlaces (k : Nat) : Nat → Nat → List (Nat × Nat)
 | _, 0 => []
 | i, n + 1 => (i * k, k) :: unitPlaces k (i + 1) n
theorem unitPlaces_get (k : Nat) : ∀ (n i j : Nat), (unitPlaces k i n)[j]? = if j < n then some ((i + j) * k, k) else none
 | 0, i, j => by simp [unitPlaces]
 | n + 1, i, 0 => by simp [unitPlaces]
 | n + 1, i, j + 1 => by
   simp only [unitPlaces, List.getElem?_cons_succ, unitPlaces_get k n (i + 1) j]
   by_cases h : j < n
   · rw [if_pos h, if_pos (by omega), show i + 1 + j = i + (j + 1) by omega]
   · rw [if_neg h, if_neg (by omega)]
def sliceLitS (P : Program) (nm : Nat) (t : TypeId) (len : Nat) (parts : List (Nat × SV)) : Option Out :=
 match P.underlying t with
 | some (.slice e) =>
   match zerosOf P e with
   | some z =>
     if Nat.blt 0 z.length && (Nat.blt 0 len && (Nat.ble (len * z.length) 65536 && parts.all fun p => Nat.blt p.1 len)) then
       match fillS (unitPlaces z.length 0 len) (repS (toSVs z) len) parts with
       | some xs => if Nat.beq xs.length (len * z.length) then some (True, [], .sl nm 0 len, [(nm, some (.cells e z.length xs))]) else none
       | none => none
     else none
   | none => none
 | _ => none
theorem repS_length (z : List SV) : ∀ n, (repS z n).length = n * z.length
 | 0 => by simp [repS]
 | n + 1 => by simp [repS, repS_length z n, Nat.succ_mul, Nat.add_comm]
theorem repS_get (z : List SV) (hz : 0 < z.length) : ∀ (n i : Nat), i < n * z.length → (repS z n)[i]? = z[i % z.length]?
 | 0, i, h => by simp at h
 | n + 1, i, h => by
   simp only [repS]
   by_cases hi : i < z.length
   · rw [List.getElem?_append_left hi, Nat.mod_eq_of_lt hi]
   · rw [List.getElem?_append_right (by omega), repS_get z hz n (i - z.length) (by rw [Nat.succ_mul] at h; omega)]
     rw [Nat.mod_eq_sub_mod (a := i) (by omega)]
theorem fill_bound {places : List (Nat × Nat)} {place place' : Nat → Option (Nat × Nat)} {n : Nat} (hp : ∀ i, i < n → place i = place' i) : ∀ (parts : List (Nat × Value)) (vs : Array Value), (∀ p, p ∈ parts → p.1 < n) →
   Instr.fill place vs parts = Instr.fill place' vs parts
 | [], vs, _ => rfl
 | (i, u) :: r, vs, h => by
   simp only [Instr.fill, hp i (h (i, u) (List.mem_cons_self ..))]
   split
   · rfl
   · split
     · rfl
     · exact fill_bound (places := places) hp r _ fun p hp => h p (List.mem_cons_of_mem _ hp)
theorem sliceLit_ok {C : Ctx} {o : Oper} {nm : Nat} {v : Operand → SV} {h : Heap} {x : Out} {t : TypeId} {len : Nat} {parts : Array (Nat × Operand)} (ho : o.op = .buildSlice t len parts) (e : sliceLitS C.P nm t len (svParts v parts.toList) = some x) : Sound C o nm v h x := by
 unfold sliceLitS at e
 split at e
 · next el hel =>
   split at e
   · next z hz =>
     split at e
     · next hc =>
       split at e
       · next xs hxs =>
         split at e
         · next hxl =>
           cases e
           intro _
           have hxl := Nat.eq_of_beq_eq_true hxl
           simp only [Bool.and_eq_true, List.all_eq_true] at hc
           obtain ⟨c1, c2, c3, c4⟩ := hc
           have c1 : 0 < z.length := by simpa using c1
           have c2 : 0 < len := by simpa using c2
           have c3 := Nat.le_of_ble_eq_true c3
           refine ⟨ok_value fun M F ρ a h w hv hH _ hfr => ?_, fun p hp => by simp at hp, by simp [keysIn]⟩
           obtain ⟨i, zv, hi, hzv, hzl, hlen, hone⟩ := zerosOf_ok hz
           have hzsz : zv.cells.size = z.length := by rw [← hzl, Array.length_toList]
           obtain ⟨p1, p2⟩ := parts_rel (M := M) (ρ := ρ) (a := a) (v := v) (parts := parts) (fun i x hx => hv x (by rw [ho]; exact mem_build (t := t) hx))
           have hRL : RL M ρ (repS (toSVs z) len) ((Array.range (len * z.length)).map (zv.cells[· % zv.cells.size]!)) := by
             refine ⟨by simp [repS_length, toSVs_length], fun j s hs => ?_⟩
             have hj : j < len * z.length := by
               have := (List.getElem?_eq_some_iff.1 hs).1
               rw [repS_length, toSVs_length] at this; exact this
             rw [repS_get _ (by rw [toSVs_length]; exact c1) len j (by rw [toSVs_length]; exact hj), toSVs_length, toSVs_get] at hs
             have hm : j % z.length < z.length := Nat.mod_lt _ c1
             have hzj : z[j % z.length]? = some (z[j % z.length]'hm) := List.getElem?_eq_getElem hm
             rw [hzj] at hs; cases hs
             refine ⟨z[j % z.length]'hm, ?_, toSV_ok (hone _ (List.getElem_mem hm))⟩
             have : zv.cells[j % zv.cells.size]! = z[j % z.length]'hm := by
               rw [hzsz]
               have hm' : j % z.length < zv.cells.size := by rw [hzsz]; exact hm
               rw [getElem!_pos zv.cells _ hm']
               have : zv.cells.toList[j % z.length]'(by simpa using hm') = z[j % z.length]'hm := by simp only [hzl]
               simpa using this
             simp [hj, this]
           obtain ⟨us, g1, g2⟩ := fill_ok (M := M) (ρ := ρ) (unitPlaces z.length 0 len) (fun i => (unitPlaces z.length 0 len)[i]?) (fun i => rfl) (svParts v parts.toList) _ (repS (toSVs z) len) xs _ p1 p2 hRL hxs
           have hplace : Instr.fill (fun i => some (i * z.length, z.length)) ((Array.range (len * z.length)).map (zv.cells[· % zv.cells.size]!)) (parts.map fun (i, x) => (i, a.eval x)).toList = some us := by
             rw [← g1]
             refine fill_bound (places := []) (n := len) (fun i hi => ?_) _ _ ?_
             · rw [unitPlaces_get, if_pos hi, Nat.zero_add]
             · intro p hp
               obtain ⟨j, hj⟩ := List.mem_iff_getElem?.1 hp
               rw [Array.getElem?_toList] at hj
               simp only [Array.getElem?_map, Option.map_eq_some_iff] at hj
               obtain ⟨⟨i, y⟩, hy, rfl⟩ := hj
               have hmem : (i, v y) ∈ svParts v parts.toList := by
                 have : ∀ (l : List (Nat × Operand)), (i, y) ∈ l → (i, v y) ∈ svParts v l := by
                   intro l
                   induction l with
                   | nil => intro h; cases h
                   | cons q l ih =>
                     intro h
                     rcases List.mem_cons.1 h with rfl | h
                     · exact List.mem_cons_self ..
                     · exact List.mem_cons_of_mem _ (ih h)
                 exact this _ (by rw [Array.mem_toList_iff]; exact Array.mem_of_getElem? hy)
               simpa using c4 _ hmem
           obtain ⟨ρ', k1, k2, k3, k4⟩ := new_block hH hfr z.length len c2 (.cells el z.length xs) (.cells us el) (by
             intro ρ' hρ'
             exact ⟨rfl, rfl, rfl, by rw [g2.1, hxl], by rw [g2.1]; exact Nat.le_refl _, fun j s hs => let ⟨u, u1, u2⟩ := g2.2 j s hs; ⟨u, u1, u2.mono (Imm.le_refl _) hρ'⟩⟩)
           refine ⟨ρ', .slice (some ⟨w.heap.size, 0, none⟩) len len, _, k1, k2, ?_, ?_, k4, Same.alloc _ _⟩
           · have n1 : ¬ (len * i.size > 2 ^ 24) := by rw [← hlen]; omega
             have n2 : ¬ (len * i.size = 0) := by rw [← hlen]; exact Nat.ne_of_gt (Nat.mul_pos c2 c1)
             rw [← hlen] at n1 n2
             simp only [execOp, ho, Instr.buildSlice, Sem.run_bind, run_underlying hel, Result.andThen_ok, sizeOf, typeInfo, run_program, hi, Sem.run_pure, Sem.run_ite, ← hlen, if_neg n1, if_neg n2, zeroValue, hzv, hplace]
             rfl
           · have hml : len ≤ maxLen := by
               have : len * 1 ≤ len * z.length := Nat.mul_le_mul_left _ c1
               simp only [maxLen]; omega
             have := VR.sl (M := M) nm 0 len _ k3 (by simp) hml c2
             simpa using this
         · cases e
       · cases e
     · cases e
   · cases e
 · cases e
end Go.Proofs.YtpdojmebloekgaaDoor.Nice
namespace Go.Proofs.YtpdojmebloekgaaDoor.Nice
open Go
set_option linter.unusedVariables false
theorem HR.ghost {M F : Imm} {ρ : Names} {h : Heap} {w : World} (H : HR M F ρ h w) {nm : Nat} (hfr : ∀ n, nm ≤ n → n < nm + 8 → ρ n = none) (ty k : Nat) (f : Nat → Nat → D) :
   ∃ ρ' : Names, ρ.le ρ' ∧ (∀ n, n < nm ∨ nm + 8 ≤ n → ρ' n = ρ n) ∧ ρ' nm = some ⟨0, k, 0⟩ ∧ HR M F ρ' (upd h nm (some (.rows ty k 0 f))) w := by
 have hn := hfr nm (Nat.le_refl _) (by omega)
 have hle : ρ.le (fun m => if m = nm then some ⟨0, k, 0⟩ else ρ m) := by
   intro m x hx
   have : m ≠ nm := by rintro rfl; rw [hn] at hx; cases hx
   simp [this, hx]
 refine ⟨_, hle, fun n h => by have : n ≠ nm := by omega
                               simp [this], by simp, H.imm, H.frm, H.dis, ?_, ?_, ?_⟩
 rotate_right
 · refine H.famKeep (fun m S es hm => ?_) hle (Imm.le_refl _) (Nat.le_refl _) (fun _ _ _ _ _ _ a b => ⟨a, b⟩) (fun _ _ _ _ _ _ _ _ _ _ => rfl) (fun m S es p y hm hp hy h0 => ?_)
   · rw [upd_eq] at hm
     split at hm
     · cases hm
     · exact hm
   · by_cases e : p = nm
     · subst e; simp at hy; subst hy; exact absurd h0 (Nat.lt_irrefl _)
     · simp only [e, if_false] at hy
       rw [upd_other _ _ _ _ e] at hp
       exact .inl ⟨hp, hy⟩
 · intro m b hm
   rw [upd_eq] at hm
   split at hm
   · next e => subst e; cases hm; exact ⟨⟨0, k, 0⟩, by simp, .inl ⟨rfl, rfl⟩⟩
   · next e =>
     obtain ⟨x, hx, hr⟩ := H.live m b hm
     refine ⟨x, by simp [e, hx], ?_⟩
     rcases hr with hr | ⟨h0, h1, h2, o, h3, h4⟩
     · exact .inl hr
     · exact .inr ⟨h0, h1, h2, o, h3, h4.mono (Imm.le_refl _) hle⟩
 · intro p q x y hp hq hx hy h0x h0y hb
   simp only [upd_eq] at hp hq
   by_cases ep : p = nm
   · simp only [ep, if_true] at hx; cases hx; simp at h0x
   · by_cases eq : q = nm
     · simp only [eq, if_true] at hy; cases hy; simp at h0y
     · simp only [ep, eq, if_false] at hx hy hp hq
       exact H.sep p q x y hp hq hx hy h0x h0y hb
theorem HR.move {M F : Imm} {ρ : Names} {h : Heap} {w w' : World} (H : HR M F ρ h w) {n nm : Nat} (hfr : ∀ m, nm ≤ m → m < nm + 8 → ρ m = none) (x : Own) (hn : h n ≠ none) (hx : ρ n = some x) (h0 : 0 < x.R) (blk : Blk) (obj : Obj)
   (hw : w'.heap[x.b]? = some obj) (ho : ∀ b, b ≠ x.b → w'.heap[b]? = w.heap[b]?) (hB : BR M ρ x blk obj) (hfm : ∀ S es, blk ≠ .fam S es := by intro S es h; cases h) (hsz : w.heap.size ≤ w'.heap.size := by simp) :
   ∃ ρ' : Names, ρ.le ρ' ∧ (∀ m, m < nm ∨ nm + 8 ≤ m → ρ' m = ρ m) ∧ ρ' nm = some x ∧ HR M F ρ' (upd (upd h n none) nm (some blk)) w' := by
 have hnm := hfr nm (Nat.le_refl _) (by omega)
 have hne : n ≠ nm := by rintro rfl; rw [hx] at hnm; cases hnm
 have hle : ρ.le (fun m => if m = nm then some x else ρ m) := by
   intro m y hy
   have : m ≠ nm := by rintro rfl; rw [hnm] at hy; cases hy
   simp [this, hy]
 have H2 := H.put n x hn hx h0 blk obj hw ho hB hfm hsz
 obtain ⟨y, hy, hr⟩ := H2.live n blk (by simp)
 rw [hx] at hy; obtain rfl := Option.some.inj hy
 have hr : 0 < x.R ∧ M x.b = none ∧ F x.b = none := by
   rcases hr with ⟨h00, _⟩ | ⟨_, h1, h2, _⟩
   · omega
   · exact ⟨h0, h1, h2⟩
 refine ⟨_, hle, fun m h => by have : m ≠ nm := by omega
                               simp [this], by simp, H2.imm, H2.frm, H2.dis, ?_, ?_, ?_⟩
 rotate_right
 · refine H2.famKeep (fun m S es hm => ?_) hle (Imm.le_refl _) (Nat.le_refl _) (fun _ _ _ _ _ _ a b => ⟨a, b⟩) (fun _ _ _ _ _ _ _ _ _ _ => rfl) (fun m S es p y hm hp hy h0y => ?_)
   · rw [upd_eq] at hm
     split at hm
     · exact absurd (Option.some.inj hm) (hfm S es)
     · rw [upd_eq] at hm
       split at hm
       · cases hm
       · next e => rw [upd_other _ _ _ _ e]; exact hm
   · by_cases e : p = nm
     · subst e
       simp only [if_true] at hy; cases hy
       obtain ⟨_, _, _, _, g2, _⟩ := H2.fam m S es hm
       exact .inr (g2 n x (by simp) hx h0)
     · simp only [e, if_false] at hy
       rw [upd_other _ _ _ _ e] at hp
       refine .inl ⟨fun e2 => hp ?_, hy⟩
       rw [upd_eq] at e2 ⊢
       split
       · rfl
       · next e3 => rw [if_neg e3] at e2; exact e2
 · intro m b hm
   rw [upd_eq] at hm
   split at hm
   · next e => subst e; cases hm; exact ⟨x, by simp, .inr ⟨hr.1, hr.2.1, hr.2.2, obj, hw, hB.mono (Imm.le_refl _) hle⟩⟩
   · next e =>
     rw [upd_eq] at hm
     split at hm
     · cases hm
     · next e2 =>
       obtain ⟨y, hy, hr⟩ := H2.live m b (by rw [upd_other _ _ _ _ e2]; exact hm)
       refine ⟨y, by simp [e, hy], ?_⟩
       rcases hr with hr | ⟨g0, h1, h2, o, h3, h4⟩
       · exact .inl hr
       · exact .inr ⟨g0, h1, h2, o, h3, h4.mono (Imm.le_refl _) hle⟩
 · have old : ∀ p, p ≠ nm → upd (upd h n none) nm (some blk) p ≠ none → p ≠ n ∧ upd h n (some blk) p ≠ none := by
     intro p ep hp
     rw [upd_other _ _ _ _ ep] at hp
     have : p ≠ n := by rintro rfl; simp at hp
     refine ⟨this, ?_⟩
     rw [upd_other _ _ _ _ this] at hp ⊢
     exact hp
   intro p q y z hp hq hy hz h0y h0z hb
   by_cases ep : p = nm <;> by_cases eq : q = nm
   · rw [ep, eq]
   · simp only [ep, if_true] at hy; simp only [eq, if_false] at hz
     obtain ⟨a1, a2⟩ := old q eq hq
     cases hy
     exact absurd (H2.sep n q x z (by simp) a2 hx hz h0 h0z hb).symm a1
   · simp only [eq, if_true] at hz; simp only [ep, if_false] at hy
     obtain ⟨a1, a2⟩ := old p ep hp
     cases hz
     exact absurd (H2.sep p n y x a2 (by simp) hy hx h0y h0 hb) a1
   · simp only [ep, eq, if_false] at hy hz
     exact H2.sep p q y z (old p ep hp).2 (old q eq hq).2 hy hz h0y h0z hb
def CR (M : Imm) (ρ : Names) (k : Nat) : Blk → Nat → List Value → Prop
 | .cells _ k' xs, len, l => k' = k ∧ xs.length = len * k ∧ l.length = len * k ∧ ∀ (j : Nat) (s : SV), xs[j]? = some s → ∃ v, l[j]? = some v ∧ VR M ρ s v
 | .rows _ k' len' f, len, l => k' = k ∧ len' = len ∧ l.length = len * k ∧ ∀ i c, i < len → c < k → ∃ v, l[i * k + c]? = some v ∧ DR M (f i c) v
 | _, _, _ => False
theorem CR.length {M : Imm} {ρ : Names} {k : Nat} {b : Blk} {len : Nat} {l : List Value} (h : CR M ρ k b len l) : l.length = len * k := by
 cases b with
 | cells => exact h.2.2.1
 | rows => exact h.2.2.1
 | map => exact h.elim
 | fam => exact h.elim
 | iter => exact h.elim
theorem CR.nofam {M : Imm} {ρ : Names} {k : Nat} {b : Blk} {len : Nat} {l : List Value} (h : CR M ρ k b len l) : ∀ S es, b ≠ .fam S es := by
 rintro S es rfl; exact h
def Blk.ty : Blk → TypeId
 | .cells t _ _ | .rows t _ _ _ => t
 | _ => 0
def Blk.withTy (e : TypeId) : Blk → Blk
 | .cells _ k xs => .cells e k xs
 | .rows _ k n f => .rows e k n f
 | b => b
theorem CR.BR {M : Imm} {ρ : Names} {b : Blk} {len : Nat} {l : List Value} {x : Own} {cur : Array Value} {e : TypeId} (h : CR M ρ x.k b len l) (hl : cur.toList.take (len * x.k) = l) (hs : cur.size = x.R * x.k) (hR : len ≤ x.R) :
   BR M ρ x (b.withTy e) (.cells cur e) := by
 have get : ∀ (j : Nat) (v : Value), l[j]? = some v → cur[j]? = some v := by
   intro j v hv
   rw [← hl, List.getElem?_take] at hv
   split at hv
   · rw [← Array.getElem?_toList]; exact hv
   · cases hv
 cases b with
 | cells ty k xs =>
   obtain ⟨h1, h2, h3, h4⟩ := h
   subst h1
   refine ⟨rfl, rfl, rfl, hs, ?_, fun j s hj => let ⟨v, v1, v2⟩ := h4 j s hj; ⟨v, get j v v1, v2⟩⟩
   rw [h2, hs]; exact Nat.mul_le_mul_right _ hR
 | rows ty k n f =>
   obtain ⟨h1, h2, h3, h4⟩ := h
   subst h1; subst h2
   exact ⟨rfl, rfl, rfl, hs, hR, fun i c hi hc => let ⟨v, v1, v2⟩ := h4 i c hi hc; ⟨v, get _ v v1, v2⟩⟩
 | map => exact h.elim
 | fam => exact h.elim
 | iter => exact h.elim
def catR (f : Nat → Nat → D) (n : Nat) (g : Nat → Nat → D) : Nat → Nat → D := fun i c => if i < n then f i c else g (i - n) c
def litR (k : Nat) (ds : List D) : Nat → Nat → D := fun i c => ds.getD (i * k + c) .any
def catBlk (e k : Nat) : Blk → Nat → Blk → Nat → Option Blk
 | .cells _ _ xs, n, .cells _ _ ys, m => some (.cells e k (xs ++ ys))
 | .rows _ _ _ f, n, .rows _ _ _ g, m => some (.rows e k (n + m) (catR f n g))
 | .rows _ _ _ f, n, .cells _ _ ys, m => match dOf ys with | some ds => some (.rows e k (n + m) (catR f n (litR k ds))) | none => none
 | .cells _ _ xs, n, .rows _ _ _ g, m => match xs with
   | [] => some (.rows e k m g)
   | _ => match dOf xs with | some ds => some (.rows e k (n + m) (catR (litR k ds) n g)) | none => none
 | _, _, _, _ => none
theorem litR_ok {M : Imm} {ρ : Names} {k n : Nat} {ys : List SV} {ds : List D} {l : List Value} (hd : dOf ys = some ds) (h2 : ys.length = n * k) (h4 : ∀ (j : Nat) (s : SV), ys[j]? = some s → ∃ v, l[j]? = some v ∧ VR M ρ s v) :
   ∀ i c, i < n → c < k → ∃ v, l[i * k + c]? = some v ∧ DR M (litR k ds i c) v := by
 intro i c hi hc
 obtain ⟨d1, d2⟩ := dOf_get hd
 have hlt : i * k + c < ds.length := by
   rw [d1, h2]
   have : (i + 1) * k ≤ n * k := Nat.mul_le_mul_right _ hi
   rw [Nat.succ_mul] at this; omega
 have hx : ds[i * k + c]? = some (ds[i * k + c]'hlt) := List.getElem?_eq_getElem hlt
 obtain ⟨v, v1, v2⟩ := h4 _ _ (d2 _ _ hx)
 refine ⟨v, v1, ?_⟩
 unfold litR
 rw [List.getD_eq_getElem?_getD, hx]
 cases v2 with | d _ _ h => exact h
theorem catR_ok {M : Imm} {k n m : Nat} {f g : Nat → Nat → D} {l1 l2 : List Value} (h1 : l1.length = n * k) (hf : ∀ i c, i < n → c < k → ∃ v, l1[i * k + c]? = some v ∧ DR M (f i c) v)
   (hg : ∀ i c, i < m → c < k → ∃ v, l2[i * k + c]? = some v ∧ DR M (g i c) v) : ∀ i c, i < n + m → c < k → ∃ v, (l1 ++ l2)[i * k + c]? = some v ∧ DR M (catR f n g i c) v := by
 intro i c hi hc
 unfold catR
 by_cases h : i < n
 · rw [if_pos h]
   have : (i + 1) * k ≤ n * k := Nat.mul_le_mul_right _ h
   rw [Nat.succ_mul] at this
   rw [List.getElem?_append_left (by omega)]
   exact hf i c h hc
 · rw [if_neg h]
   have : n * k ≤ i * k := Nat.mul_le_mul_right _ (by omega)
   rw [List.getElem?_append_right (by omega), h1, show i * k + c - n * k = (i - n) * k + c by rw [Nat.sub_mul]; omega]
   exact hg (i - n) c (by omega) hc
theorem catBlk_ok {M : Imm} {ρ : Names} {e k : Nat} (hk : 0 < k) {b1 b2 b : Blk} {n m : Nat} {l1 l2 : List Value} (h1 : CR M ρ k b1 n l1) (h2 : CR M ρ k b2 m l2) (hb : catBlk e k b1 n b2 m = some b) : CR M ρ k b (n + m) (l1 ++ l2) ∧ b.withTy e = b := by
 have hlen : (l1 ++ l2).length = (n + m) * k := by rw [List.length_append, h1.length, h2.length, Nat.add_mul]
 cases b1 with
 | map => exact h1.elim
 | fam => exact h1.elim
 | iter => exact h1.elim
 | cells t1 k1 xs =>
   obtain ⟨rfl, x2, x3, x4⟩ := h1
   cases b2 with
   | map => exact h2.elim
   | fam => exact h2.elim
   | iter => exact h2.elim
   | cells t2 k2 ys =>
     obtain ⟨rfl, y2, y3, y4⟩ := h2
     cases hb
     refine ⟨⟨rfl, by rw [List.length_append, x2, y2, Nat.add_mul], hlen, fun j s hj => ?_⟩, rfl⟩
     by_cases hjl : j < xs.length
     · rw [List.getElem?_append_left hjl] at hj
       obtain ⟨v, v1, v2⟩ := x4 j s hj
       exact ⟨v, by rw [List.getElem?_append_left (by omega)]; exact v1, v2⟩
     · rw [List.getElem?_append_right (by omega)] at hj
       obtain ⟨v, v1, v2⟩ := y4 _ s hj
       exact ⟨v, by rw [List.getElem?_append_right (by omega), x3, ← x2]; exact v1, v2⟩
   | rows t2 k2 m' g =>
     obtain ⟨rfl, rfl, y3, y4⟩ := h2
     simp only [catBlk] at hb
     split at hb
     · cases hb
       have hn : n * k2 = 0 := by simpa using x2.symm
       have hl1 : l1 = [] := List.eq_nil_of_length_eq_zero (by rw [x3, hn])
       have : n = 0 := by
         rcases Nat.mul_eq_zero.1 hn with h | h
         · exact h
         · omega
       subst this; subst hl1
       rw [Nat.zero_add, List.nil_append]
       exact ⟨⟨rfl, rfl, y3, y4⟩, rfl⟩
     · next hne =>
       split at hb
       · next ds hds => cases hb; exact ⟨⟨rfl, rfl, hlen, catR_ok x3 (litR_ok hds x2 x4) y4⟩, rfl⟩
       · cases hb
 | rows t1 k1 n' f =>
   obtain ⟨rfl, rfl, x3, x4⟩ := h1
   cases b2 with
   | map => exact h2.elim
   | fam => exact h2.elim
   | iter => exact h2.elim
   | cells t2 k2 ys =>
     obtain ⟨rfl, y2, y3, y4⟩ := h2
     simp only [catBlk] at hb
     split at hb
     · next ds hds => cases hb; exact ⟨⟨rfl, rfl, hlen, catR_ok x3 x4 (litR_ok hds y2 y4)⟩, rfl⟩
     · cases hb
   | rows t2 k2 m' g =>
     obtain ⟨rfl, rfl, y3, y4⟩ := h2
     cases hb
     exact ⟨⟨rfl, rfl, hlen, catR_ok x3 x4 y4⟩, rfl⟩
def srcS (v : SV) (h : Heap) (k : Nat) : Option (Prop × List (Nat × Blk) × Blk × Nat) :=
 match v with
 | .d .nils => some (True, [], .cells 0 k [], 0)
 | .d (.vec k' len f) => if Nat.beq k' k then some (True, [], .rows 0 k len f, len) else none
 | .sl n o len =>
   match h n with
   | some (.cells ty k' xs) => if Nat.beq k' k && (Nat.beq ((xs.drop (o * k)).take (len * k)).length (len * k) && allOne ((xs.drop (o * k)).take (len * k))) then some (True, [(n, .cells ty k' xs)], .cells 0 k ((xs.drop (o * k)).take (len * k)), len) else none
   | some (.rows ty k' L f) => if Nat.beq k' k then some (o + len ≤ L, [(n, .rows ty k' L f)], .rows 0 k len (if Nat.beq o 0 then f else fun i c => f (o + i) c), len) else none
   | _ => none
 | _ => none
theorem srcS_ok {v : SV} {h0 : Heap} {k : Nat} {vc : Prop} {bs : List (Nat × Blk)} {blk : Blk} {m : Nat} (e : srcS v h0 k = some (vc, bs, blk, m)) (hvc : vc) :
   (∀ p, p ∈ bs → h0 p.1 = some p.2) ∧ ∀ (M F : Imm) (ρ : Names) (h : Heap) (w : World) (av : Value), VR M ρ v av → HR M F ρ h w → (∀ p, p ∈ bs → h p.1 = some p.2) →
     ∃ xa xc l, av = .slice xa m xc ∧ CR M ρ k blk m l ∧ (m = 0 ∨ k = 0 ∨ ∃ ad, xa = some ad ∧ ∀ (j : Nat) (u : Value), l[j]? = some u → w.cell? (ad.add j) = some u ∧ u.oneCell' = true) := by
 unfold srcS at e
 split at e
 · cases e
   refine ⟨fun p hp => by simp at hp, fun M F ρ h w av hv _ _ => ?_⟩
   cases hv with | d _ _ hd => cases hd with | nils a => exact ⟨a, 0, [], rfl, ⟨rfl, by simp, by simp, fun j s hs => by simp at hs⟩, .inl rfl⟩
 · next k' len f =>
   split at e
   · next hk =>
     cases e
     have hk := Nat.eq_of_beq_eq_true hk; subst hk
     refine ⟨fun p hp => by simp at hp, fun M F ρ h w av hv hH _ => ?_⟩
     cases hv with
     | d _ _ hd =>
       cases hd with
       | vec0 _ _ a cap => exact ⟨a, cap, [], rfl, ⟨rfl, rfl, by simp, fun i c hi => by omega⟩, .inl rfl⟩
       | vec _ _ _ b o cap cur T fz g hb hc hg hr =>
         by_cases hz : m = 0 ∨ k' = 0
         · refine ⟨_, cap, [], rfl, ⟨rfl, rfl, ?_, fun i c hi hc => by omega⟩, by rcases hz with h | h; exact .inl h; exact .inr (.inl h)⟩
           rcases hz with h | h <;> simp [h]
         · have hm : 0 < m := by omega
           have hk : 0 < k' := by omega
           have hw := hH.imm b _ hb
           have hget : ∀ j, j < m * k' → ∃ u, cur[o + j]? = some u ∧ u.oneCell' = true := by
             intro j hj
             have hjk : j / k' < m := Nat.div_lt_of_lt_mul (by rw [Nat.mul_comm]; exact hj)
             have hjm : j % k' < k' := Nat.mod_lt _ hk
             refine ⟨g (j / k') (j % k'), ?_, (hr _ _ hjk hjm).one⟩
             rw [← hg _ _ hjk hjm]
             congr 1
             have := Nat.div_add_mod j k'
             rw [Nat.mul_comm] at this; omega
           let l : List Value := (List.range (m * k')).map fun j => (cur[o + j]?).getD undef
           have hl : ∀ j, j < m * k' → l[j]? = cur[o + j]? := by
             intro j hj
             obtain ⟨u, hu, _⟩ := hget j hj
             simp [l, hj, hu]
           refine ⟨_, cap, l, rfl, ⟨rfl, rfl, by simp [l], fun i c hi hcc => ?_⟩, .inr (.inr ⟨⟨b, o, none⟩, rfl, fun j u hj => ?_⟩)⟩
           · have hlt : i * k' + c < m * k' := by
               have : (i + 1) * k' ≤ m * k' := Nat.mul_le_mul_right _ hi
               rw [Nat.succ_mul] at this; omega
             refine ⟨g i c, ?_, hr i c hi hcc⟩
             rw [hl _ hlt, ← hg i c hi hcc]; congr 1; omega
           · have hlt : j < m * k' := by
               have := (List.getElem?_eq_some_iff.1 hj).1
               simpa [l] using this
             rw [hl j hlt] at hj
             obtain ⟨u', h1, h2⟩ := hget j hlt
             rw [hj] at h1; cases h1
             rw [Addr.add_lit, cell_of_row w b _ cur T fz hw]
             exact ⟨hj, h2⟩
   · cases e
 · next n o len =>
   split at e
   · next ty k' xs hn =>
     split at e
     · next hc =>
       cases e
       simp only [Bool.and_eq_true] at hc
       have hk := Nat.eq_of_beq_eq_true hc.1; subst hk
       have hlen := Nat.eq_of_beq_eq_true hc.2.1
       refine ⟨fun p hp => by simp at hp; subst hp; exact hn, fun M F ρ h w av hv hH hbs => ?_⟩
       have hn' := hbs _ (List.mem_singleton.2 rfl)
       cases hv with
       | sl0 _ _ x hx hR a => exact ⟨a, 0, [], rfl, ⟨rfl, by simp, by simp, fun j s hs => by simp at hs⟩, .inl rfl⟩
       | sl _ _ _ x hx hl hR h0 =>
         obtain ⟨cur, k1, k2, k3, k4, k5, k6⟩ := hH.cells hn' hx
         have hget : ∀ (j : Nat) (s : SV), ((xs.drop (o * k')).take (m * k'))[j]? = some s → ∃ u, cur[o * k' + j]? = some u ∧ VR M ρ s u := by
           intro j s hs
           rw [List.getElem?_take] at hs
           split at hs
           · rw [List.getElem?_drop] at hs
             obtain ⟨u, u1, u2⟩ := k6 _ s hs
             exact ⟨u, u1, u2⟩
           · cases hs
         let l : List Value := (cur.toList.drop (o * k')).take (m * k')
         have hll : l.length = m * k' := by
           have : m * k' ≤ xs.length - o * k' := by
             rw [List.length_take, List.length_drop] at hlen; omega
           simp only [l, List.length_take, List.length_drop, Array.length_toList]; omega
         have hl2 : ∀ j, j < m * k' → l[j]? = cur[o * k' + j]? := by
           intro j hj
           simp only [l]
           rw [List.getElem?_take, if_pos hj, List.getElem?_drop, Array.getElem?_toList]
         refine ⟨_, _, l, rfl, ⟨rfl, hlen, hll, fun j s hs => ?_⟩, .inr (.inr ⟨_, rfl, fun j u hj => ?_⟩)⟩
         · have hj : j < m * k' := by rw [← hlen]; exact (List.getElem?_eq_some_iff.1 hs).1
           obtain ⟨u, u1, u2⟩ := hget j s hs
           exact ⟨u, by rw [hl2 j hj]; exact u1, u2⟩
         · have hjl : j < m * k' := by rw [← hll]; exact (List.getElem?_eq_some_iff.1 hj).1
           rw [hl2 j hjl] at hj
           rw [Addr.add_lit, k3, cell_of_row w x.b _ cur ty (0, 0) k1]
           have hjx : j < ((xs.drop (o * k')).take (m * k')).length := by rw [hlen]; exact hjl
           obtain ⟨u', u1, u2⟩ := hget j _ (List.getElem?_eq_getElem hjx)
           rw [hj] at u1; cases u1
           exact ⟨hj, u2.one (allOne_get hc.2.2 j _ (List.getElem?_eq_getElem hjx))⟩
     · cases e
   · next ty k' L f hn =>
     split at e
     · next hk =>
       cases e
       have hk := Nat.eq_of_beq_eq_true hk; subst hk
       refine ⟨fun p hp => by simp at hp; subst hp; exact hn, fun M F ρ h w av hv hH hbs => ?_⟩
       have hn' := hbs _ (List.mem_singleton.2 rfl)
       have hfo : ∀ i c, (if Nat.beq o 0 = true then f else fun i c => f (o + i) c) i c = f (o + i) c := by
         intro i c
         split
         · next h => have := Nat.eq_of_beq_eq_true h; subst this; rw [Nat.zero_add]
         · rfl
       by_cases hz : m = 0 ∨ k' = 0
       · have hcr : CR M ρ k' (.rows 0 k' m (if Nat.beq o 0 = true then f else fun i c => f (o + i) c)) m [] :=
           ⟨rfl, rfl, by rcases hz with h | h <;> simp [h], fun i c hi hc => by omega⟩
         have hz' : ∀ xa : Option Addr, m = 0 ∨ k' = 0 ∨ ∃ ad, xa = some ad ∧ ∀ (j : Nat) (u : Value), ([] : List Value)[j]? = some u → w.cell? (ad.add j) = some u ∧ u.oneCell' = true := by
           intro xa; rcases hz with h | h
           · exact .inl h
           · exact .inr (.inl h)
         cases hv with
         | sl0 _ _ x hx hR a => exact ⟨a, 0, [], rfl, hcr, hz' _⟩
         | sl _ _ _ x hx hl hR h0 => exact ⟨_, _, [], rfl, hcr, hz' _⟩
       · cases hv with
         | sl0 _ _ x hx hR a => omega
         | sl _ _ _ x hx hl hR h0 =>
           obtain ⟨cur, k1, k2, k3, k4, k5, k6⟩ := hH.rows hn' (by omega) hx
           have hk : 0 < k' := by omega
           have hget : ∀ i c, i < m → c < k' → ∃ u, cur[o * k' + (i * k' + c)]? = some u ∧ DR M (f (o + i) c) u := by
             intro i c hi hc
             obtain ⟨u, u1, u2⟩ := k6 (o + i) c (by omega) hc
             exact ⟨u, by rw [← u1, Nat.add_mul]; congr 1; omega, u2⟩
           let l : List Value := (cur.toList.drop (o * k')).take (m * k')
           have hfit : o * k' + m * k' ≤ cur.size := by rw [← Nat.add_mul, k4]; exact Nat.mul_le_mul_right _ hl
           have hll : l.length = m * k' := by
             simp only [l, List.length_take, List.length_drop, Array.length_toList]; omega
           have hl2 : ∀ j, j < m * k' → l[j]? = cur[o * k' + j]? := by
             intro j hj
             simp only [l]
             rw [List.getElem?_take, if_pos hj, List.getElem?_drop, Array.getElem?_toList]
           refine ⟨_, _, l, rfl, ⟨rfl, rfl, hll, fun i c hi hc => ?_⟩, .inr (.inr ⟨_, rfl, fun j u hj => ?_⟩)⟩
           · have hlt : i * k' + c < m * k' := by
               have : (i + 1) * k' ≤ m * k' := Nat.mul_le_mul_right _ hi
               rw [Nat.succ_mul] at this; omega
             obtain ⟨u, u1, u2⟩ := hget i c hi hc
             exact ⟨u, by rw [hl2 _ hlt]; exact u1, by rw [hfo]; exact u2⟩
           · have hjl : j < m * k' := by rw [← hll]; exact (List.getElem?_eq_some_iff.1 hj).1
             rw [hl2 j hjl] at hj
             rw [Addr.add_lit, k3, cell_of_row w x.b _ cur ty (0, 0) k1]
             have hjk : j / k' < m := Nat.div_lt_of_lt_mul (by rw [Nat.mul_comm]; exact hjl)
             obtain ⟨u', u1, u2⟩ := hget (j / k') (j % k') hjk (Nat.mod_lt _ hk)
             have hjj : j / k' * k' + j % k' = j := by rw [Nat.mul_comm]; exact Nat.div_add_mod j k'
             rw [hjj, hj] at u1; cases u1
             exact ⟨hj, u2.one⟩
     · cases e
   · cases e
 · cases e
theorem HR.drew {M F : Imm} {ρ : Names} {h : Heap} {w : World} (H : HR M F ρ h w) : HR M F ρ h w.drew := H.drawn _
theorem grown_block {M F : Imm} {ρ : Names} {h : Heap} {w : World} (hH : HR M F ρ h w) {nm : Nat} (hfr : ∀ n, nm ≤ n → n < nm + 8 → ρ n = none) {e k N cap : Nat} {z : Array Value} (hz : z.size = k) (hN : 0 < N) (hcap : N ≤ cap) (hmax : cap ≤ maxLen)
   {blk : Blk} {l : List Value} (hCR : CR M ρ k blk N l) (hty : blk.withTy e = blk) (arr : Array Value) (harr : arr.toList = l) :
   ∃ ρ' : Names, ρ.le ρ' ∧ (∀ n, n < nm ∨ nm + 8 ≤ n → ρ' n = ρ n) ∧ VR M ρ' (.sl nm 0 N) (.slice (some ⟨w.heap.size, 0, none⟩) N cap) ∧
     HR M F ρ' (upd h nm (some blk)) (w.drew.alloc (.cells (arr ++ Builtin.zeroCells z (cap - N)) e)) ∧ Same w (w.drew.alloc (.cells (arr ++ Builtin.zeroCells z (cap - N)) e)) := by
 have hsz : (arr ++ Builtin.zeroCells z (cap - N)).size = cap * k := by
   rw [Array.size_append, size_zeroCells, hz, ← Array.length_toList, harr, hCR.length, ← Nat.add_mul]
   congr 1; omega
 obtain ⟨ρ', k1, k2, k3, k4⟩ := new_block (hH.drew) hfr k cap (by omega) blk (.cells (arr ++ Builtin.zeroCells z (cap - N)) e) (by
   intro ρ' hρ'
   rw [← hty]
   have : BR M ρ ⟨w.heap.size, k, cap⟩ (blk.withTy e) (.cells (arr ++ Builtin.zeroCells z (cap - N)) e) := by
     refine CR.BR (x := ⟨w.heap.size, k, cap⟩) hCR ?_ hsz hcap
     rw [Array.toList_append, harr, List.take_append_of_le_length (by rw [hCR.length]; exact Nat.le_refl _)]
     rw [← hCR.length, List.take_length]
   exact this.mono (Imm.le_refl _) hρ') hCR.nofam
 refine ⟨ρ', k1, k2, ?_, k4, ⟨rfl, rfl, rfl, by simp⟩⟩
 have := VR.sl (M := M) nm 0 N _ k3 (by simpa using hcap) hmax (by show 0 < cap; omega)
 simpa using this
theorem run_append_zero {P : Program} {t ty e : TypeId} {i : TypeInfo} (ht : P.underlying t = some (.slice e)) (hi : P.info? e = some i) (a xa : Option Addr) (n c xc : Nat) (hc : n ≤ c) (w : World) :
   (Builtin.append_ #[t, t] ty #[.slice a n c, .slice xa 0 xc]).run P w = .ok (.slice a n c) w := by
 cases a with
 | none => cases xa <;> simp [Builtin.append_, run_underlying ht, sizeOf, typeInfo, hi, Builtin.lenOf, hc, Builtin.firstCells, loadCells, loadCellsFrom]
 | some a => cases xa <;> simp [Builtin.append_, run_underlying ht, sizeOf, typeInfo, hi, Builtin.lenOf, hc, Builtin.firstCells, loadCells, loadCellsFrom, storeCells]
def limB : Nat := 140737488355328
theorem append_none {P : Program} {M F : Imm} {ρ : Names} {h : Heap} {w : World} (hH : HR M F ρ h w) {nm : Nat} (hfr : ∀ n, nm ≤ n → n < nm + 8 → ρ n = none) {t ty e : TypeId} {i : TypeInfo} {zv : Value}
   (ht : P.underlying t = some (.slice e)) (hi : P.info? e = some i) (hzv : i.zero = some zv) (hzs : zv.cells.size = i.size) (hk : 0 < i.size) (a xa : Option Addr) (m xc : Nat) {blk : Blk} {l : List Value} (hm : 0 < m)
   (hCR : CR M ρ i.size blk m l) (hty : blk.withTy e = blk) (hsrc : ∃ ad, xa = some ad ∧ ∀ (j : Nat) (u : Value), l[j]? = some u → w.cell? (ad.add j) = some u ∧ u.oneCell' = true) (hb : m * i.bytes ≤ limB) (h63 : m ≤ maxLen) :
   ∃ ρ' v' w', ρ.le ρ' ∧ (∀ n, n < nm ∨ nm + 8 ≤ n → ρ' n = ρ n) ∧ (Builtin.append_ #[t, t] ty #[.slice a 0 0, .slice xa m xc]).run P w = .ok v' w' ∧ VR M ρ' (.sl nm 0 m) v' ∧ HR M F ρ' (upd h nm (some blk)) w' ∧ Same w w' := by
 obtain ⟨ad, rfl, hcells⟩ := hsrc
 have h63' : (m : Int) ≤ 9223372036854775807 := by simp only [maxLen] at h63; omega
 have hge := grownCap_ge w m 0 e
 obtain ⟨ρ', k1, k2, k3, k4, k5⟩ := grown_block hH hfr (e := e) hzs hm hge (grownCap_le_maxLen w m 0 e h63) hCR hty l.toArray (by simp)
 refine ⟨ρ', _, _, k1, k2, ?_, k3, k4, k5⟩
 cases a with
 | none => exact run_append_nil w t ty e i zv ht hi hzv ad m xc l hCR.length (fun j u hj => (hcells j u hj).1) hm h63' (by unfold limB at hb; omega)
 | some a =>
   have := run_append_grow (P := P) w t ty e i zv ht hi hzv a 0 0 [] (by simp) (fun j v hv => by simp at hv) ad m xc l hCR.length (fun j u hj => (hcells j u hj).1) (by omega) (by simpa using h63')
     (by rw [Nat.zero_add, nextslicecap_zero hm]; unfold limB at hb; omega)
   simp only [Nat.zero_add] at this
   rw [this]
   simp
theorem append_some {P : Program} {M F : Imm} {ρ : Names} {h : Heap} {w : World} (hH : HR M F ρ h w) {nm : Nat} (hfr : ∀ n, nm ≤ n → n < nm + 8 → ρ n = none) {t ty e : TypeId} {i : TypeInfo} {zv : Value}
   (ht : P.underlying t = some (.slice e)) (hi : P.info? e = some i) (hzv : i.zero = some zv) (hzs : zv.cells.size = i.size) (hk : 0 < i.size) {n len m : Nat} {x : Own} (hn : h n ≠ none) (hx : ρ n = some x) (h0 : 0 < x.R) (hR : x.R ≤ maxLen) (hxk : x.k = i.size)
   {cur : Array Value} (hcur : w.heap[x.b]? = some (.cells cur e (0, 0))) (hsz : cur.size = x.R * x.k) (hlen : len ≤ x.R) {dblk sblk blk : Blk} {dl l : List Value} (hdl : cur.toList.take (len * i.size) = dl) (hd : CR M ρ i.size dblk len dl)
   (hs : CR M ρ i.size sblk m l) (hcat : catBlk e i.size dblk len sblk m = some blk) (xa : Option Addr) (xc : Nat) (hsrc : m = 0 ∨ ∃ ad, xa = some ad ∧ ∀ (j : Nat) (u : Value), l[j]? = some u → w.cell? (ad.add j) = some u ∧ u.oneCell' = true)
   (hb : (len + m) * i.bytes ≤ limB) (h63 : len + m ≤ maxLen) :
   ∃ ρ' v' w', ρ.le ρ' ∧ (∀ n, n < nm ∨ nm + 8 ≤ n → ρ' n = ρ n) ∧ (Builtin.append_ #[t, t] ty #[.slice (some ⟨x.b, 0, none⟩) len x.R, .slice xa m xc]).run P w = .ok v' w' ∧ VR M ρ' (.sl nm 0 (len + m)) v' ∧
     HR M F ρ' (upd (upd h n none) nm (some blk)) w' ∧ Same w w' := by
 obtain ⟨hCR, hty⟩ := catBlk_ok hk hd hs hcat
 have inplace : ∀ (cur' : Array Value) (w' : World), w'.heap[x.b]? = some (.cells cur' e (0, 0)) → (∀ b, b ≠ x.b → w'.heap[b]? = w.heap[b]?) → Same w w' → cur'.size = x.R * x.k → cur'.toList.take ((len + m) * i.size) = dl ++ l → len + m ≤ x.R →
     ∃ ρ', ρ.le ρ' ∧ (∀ n, n < nm ∨ nm + 8 ≤ n → ρ' n = ρ n) ∧ VR M ρ' (.sl nm 0 (len + m)) (.slice (some ⟨x.b, 0, none⟩) (len + m) x.R) ∧ HR M F ρ' (upd (upd h n none) nm (some blk)) w' := by
   intro cur' w' h1 h2 h3 h4 h5 h6
   have hB : BR M ρ x blk (.cells cur' e) := by
     rw [← hty]
     exact CR.BR (x := x) (by rw [hxk]; exact hCR) (by rw [hxk]; exact h5) h4 h6
   obtain ⟨ρ', k1, k2, k3, k4⟩ := hH.move hfr x hn hx h0 blk (.cells cur' e) h1 h2 hB hCR.nofam h3.size
   refine ⟨ρ', k1, k2, ?_, k4⟩
   have := VR.sl (M := M) nm 0 (len + m) x k3 (by omega) hR h0
   simpa using this
 have hdlen := hd.length
 rcases hsrc with rfl | ⟨ad, rfl, hcells⟩
 · have hl0 : l = [] := List.eq_nil_of_length_eq_zero (by rw [hs.length, Nat.zero_mul])
   subst hl0
   obtain ⟨ρ', k1, k2, k3, k4⟩ := inplace cur w hcur (fun _ _ => rfl) (.refl _) hsz (by rw [Nat.add_zero, List.append_nil]; exact hdl) (by omega)
   exact ⟨ρ', _, w, k1, k2, run_append_zero ht hi _ _ _ _ _ hlen w, k3, k4, .refl _⟩
 · by_cases hroom : len + m ≤ x.R
   · have hfit : len * i.size + l.length ≤ cur.size := by rw [hs.length, hsz, hxk, ← Nat.add_mul]; exact Nat.mul_le_mul_right _ hroom
     have h1 : ∀ u, u ∈ l → u.oneCell' = true := by
       intro u hu
       obtain ⟨j, hj⟩ := List.mem_iff_getElem?.1 hu
       exact (hcells j u hj).2
     have hr := run_append_room (P := P) w t ty e i ht hi x.b len x.R cur hcur ad m xc l hs.length (fun j u hj => (hcells j u hj).1) h1 hroom hfit
     obtain ⟨ρ', k1, k2, k3, k4⟩ := inplace (cur.toList.take (len * i.size) ++ l ++ cur.toList.drop (len * i.size + l.length)).toArray _ (setRow_heap w x.b cur _ e _ hcur) (fun b hb => setRow_other w x.b b _ hb) ⟨rfl, rfl, rfl, by simp⟩ (by
         simp only [List.size_toArray, List.length_append, List.length_take, List.length_drop, Array.length_toList]; omega) (by
         rw [List.toList_toArray, hdl, List.append_assoc]
         rw [show (len + m) * i.size = (dl ++ l).length by rw [List.length_append, hdlen, hs.length, Nat.add_mul]]
         rw [← List.append_assoc]
         exact List.take_left) hroom
     exact ⟨ρ', _, _, k1, k2, hr, k3, k4, ⟨rfl, rfl, rfl, by simp⟩⟩
   · have hm : 0 < len + m := by omega
     have h63' : ((len + m : Nat) : Int) ≤ 9223372036854775807 := by simp only [maxLen] at h63; omega
     have hge := grownCap_ge w (len + m) x.R e
     have hr := run_append_grow (P := P) w t ty e i zv ht hi hzv ⟨x.b, 0, none⟩ len x.R dl hdlen (fun j u hj => by
         rw [Addr.add_lit, Nat.zero_add, cell_of_row w x.b _ cur e (0, 0) hcur]
         rw [← hdl, List.getElem?_take] at hj
         split at hj
         · rw [← Array.getElem?_toList]; exact hj
         · cases hj) ad m xc l hs.length (fun j u hj => (hcells j u hj).1) (by omega) h63' (growslice_fits (by omega) (by unfold limB at hb; exact hb))
     obtain ⟨ρ', k1, k2, k3, k4, k5⟩ := grown_block (hH.drop n) hfr (e := e) hzs hm hge (grownCap_le_maxLen w (len + m) x.R e h63) hCR hty (dl.toArray ++ l.toArray) (by simp)
     exact ⟨ρ', _, _, k1, k2, hr, k3, k4, k5⟩
def appendS (P : Program) (nm : Nat) (t : TypeId) (dst src : SV) (h : Heap) : Option Out :=
 match P.underlying t with
 | some (.slice e) =>
   match P.info? e, zerosOf P e with
   | some inf, some z =>
     match srcS src h inf.size with
     | some (vc, bs, sb, m) =>
       if Nat.blt 0 inf.size then
         match dst with
         | .d .nils =>
           match sb with
           | .rows _ k' _ g => some (vc ∧ m * inf.bytes ≤ limB ∧ m ≤ maxLen, bs, .sl nm 0 m, [(nm, some (.rows e k' m g))])
           | .cells _ _ xs => if Nat.blt 0 m then some (vc ∧ m * inf.bytes ≤ limB ∧ m ≤ maxLen, bs, .sl nm 0 m, [(nm, some (.cells e inf.size xs))]) else none
           | _ => none
         | .sl n 0 len =>
           match h n with
           | some (.cells ty k' xs) =>
             if Nat.beq k' inf.size && (Nat.beq ty e && Nat.beq (xs.take (len * inf.size)).length (len * inf.size)) then
               match catBlk e inf.size (.cells e inf.size (xs.take (len * inf.size))) len sb m with
               | some blk => some (vc ∧ (len + m) * inf.bytes ≤ limB ∧ len + m ≤ maxLen, (n, .cells ty k' xs) :: bs, .sl nm 0 (len + m), [(n, none), (nm, some blk)])
               | none => none
             else none
           | some (.rows ty k' L f) =>
             if Nat.beq k' inf.size && Nat.beq ty e then
               match catBlk e inf.size (.rows e inf.size len f) len sb m with
               | some blk => some (len ≤ L ∧ vc ∧ (len + m) * inf.bytes ≤ limB ∧ len + m ≤ maxLen, (n, .rows ty k' L f) :: bs, .sl nm 0 (len + m), [(n, none), (nm, some blk)])
               | none => none
             else none
           | _ => none
         | _ => none
       else none
     | none => none
   | _, _ => none
 | _ => none
theorem catBlk_rows {e k : Nat} {f : Nat → Nat → D} {n m : Nat} {sb blk : Blk} (h : catBlk e k (.rows e k n f) n sb m = some blk) : ∃ g, blk = .rows e k (n + m) g := by
 cases sb with
 | cells t k' ys => simp only [catBlk] at h; split at h <;> cases h; exact ⟨_, rfl⟩
 | rows t k' m' g => simp only [catBlk] at h; cases h; exact ⟨_, rfl⟩
 | map => cases h
 | fam => cases h
 | iter => cases h
theorem append_ok {C : Ctx} {o : Oper} {nm : Nat} {v : Operand → SV} {h : Heap} {x : Out} {t : TypeId} {a b : Operand} (ho : o.op = .call { callee := .builtin .append, args := #[a, b], argTypes := #[t, t] }) (e : appendS C.P nm t (v a) (v b) h = some x) : Sound C o nm v h x := by
 have ma : a ∈ o.op.operands := by rw [ho]; simp [Op.operands, Call.operands]
 have mb : b ∈ o.op.operands := by rw [ho]; simp [Op.operands, Call.operands]
 have hexec : ∀ (a' : Act) (w w' : World) (u : Value), (Builtin.append_ #[t, t] o.type #[a'.eval a, a'.eval b]).run C.P w = .ok u w' → (execOp a'.eval o).run C.P w = .ok (.value u) w' := by
   intro a' w w' u hr
   unfold execOp
   simp only [ho, resolve, invoke, builtin, Sem.run_bind, Sem.run_pure, Result.andThen_ok, List.map_toArray, List.map_cons, List.map_nil, hr]
 unfold appendS at e
 split at e
 · next el hel =>
   split at e
   · next inf z hinf hz =>
     obtain ⟨i, zv, hi, hzv, hzl, hlenz, _⟩ := zerosOf_ok hz
     rw [hinf] at hi; obtain rfl := Option.some.inj hi
     have hzs : zv.cells.size = inf.size := by rw [← hlenz, ← hzl, Array.length_toList]
     split at e
     · next vc bs sb m hsrc =>
       split at e
       · next hk =>
         have hk : 0 < inf.size := by simpa using hk
         split at e
         · next hdst =>
           -- nothing there
           have core : ∀ blk : Blk, (∀ M ρ l, CR M ρ inf.size sb m l → CR M ρ inf.size blk m l ∧ blk.withTy el = blk) → (m = 0 → ∃ f, blk = .rows el inf.size 0 f) → Sound C o nm v h (vc ∧ m * inf.bytes ≤ limB ∧ m ≤ maxLen, bs, .sl nm 0 m, [(nm, some blk)]) := by
             intro blk hblk hg
             rintro ⟨hvc, hb, h63⟩
             obtain ⟨s1, s2⟩ := srcS_ok hsrc hvc
             refine ⟨ok_value fun M F ρ a' h w hv hH hbs hfr => ?_, s1, by simp [keysIn]⟩
             obtain ⟨xa, xc, l, hbv, hCR, hfrom⟩ := s2 M F ρ h w _ (hv b mb) hH hbs
             have hav := hv a ma
             rw [hdst] at hav
             obtain ⟨aa, haa⟩ : ∃ aa, a'.eval a = .slice aa 0 0 := by
               cases hav with | d _ _ hd => generalize a'.eval a = q at hd; cases hd with | nils aa => exact ⟨aa, rfl⟩
             obtain ⟨c1, c2⟩ := hblk M ρ l hCR
             rcases Nat.eq_zero_or_pos m with hm | hm
             · obtain ⟨f, rfl⟩ := hg hm
               obtain ⟨ρ', k1, k2, k3, k4⟩ := hH.ghost hfr el inf.size f
               refine ⟨ρ', .slice aa 0 0, w, k1, k2, hexec a' w w _ ?_, ?_, k4, .refl _⟩
               · rw [haa, hbv, hm]; exact run_append_zero hel hinf aa xa 0 0 xc (Nat.le_refl _) w
               · rw [hm]; exact .sl0 nm 0 _ k3 rfl aa
             · have hsrc' : ∃ ad, xa = some ad ∧ ∀ (j : Nat) (u : Value), l[j]? = some u → w.cell? (ad.add j) = some u ∧ u.oneCell' = true := by
                 rcases hfrom with h | h | h
                 · omega
                 · omega
                 · exact h
               obtain ⟨ρ', v', w', k1, k2, k3, k4, k5, k6⟩ := append_none hH hfr (ty := o.type) hel hinf hzv hzs hk aa xa m xc hm c1 c2 hsrc' hb h63
               exact ⟨ρ', v', w', k1, k2, hexec a' w w' _ (by rw [haa, hbv]; exact k3), k4, k5, k6⟩
           split at e
           · next t' k' m' g =>
             cases e
             refine core _ (fun M ρ l hc => ?_) (fun hm => ?_)
             · obtain ⟨rfl, rfl, c3, c4⟩ := hc; exact ⟨⟨rfl, rfl, c3, c4⟩, rfl⟩
             · subst hm
               have hk' : k' = inf.size := by
                 unfold srcS at hsrc
                 split at hsrc
                 · cases hsrc
                 · split at hsrc <;> cases hsrc; rfl
                 · split at hsrc
                   · split at hsrc <;> cases hsrc
                   · split at hsrc <;> cases hsrc; rfl
                   · cases hsrc
                 · cases hsrc
               subst hk'; exact ⟨g, rfl⟩
           · next t' k' xs =>
             split at e
             · next hm =>
               cases e
               refine core _ (fun M ρ l hc => ?_) (fun h0 => ?_)
               · obtain ⟨rfl, c2, c3, c4⟩ := hc; exact ⟨⟨rfl, c2, c3, c4⟩, rfl⟩
               · subst h0; simp at hm
             · cases e
           · cases e
         · next n len hdst =>
           have real : ∀ (blk0 dblk blk : Blk) (M F : Imm) (ρ : Names) (a' : Act) (h : Heap) (w : World), vc → (len + m) * inf.bytes ≤ limB → len + m ≤ maxLen → (∀ x, x ∈ o.op.operands → VR M ρ (v x) (a'.eval x)) → HR M F ρ h w → (∀ p, p ∈ (n, blk0) :: bs → h p.1 = some p.2) →
               (∀ n, nm ≤ n → n < nm + 8 → ρ n = none) → catBlk el inf.size dblk len sb m = some blk →
               (∀ x : Own, ρ n = some x → 0 < x.R → len ≤ x.R → x.R ≤ maxLen → ∃ cur, x.k = inf.size ∧ w.heap[x.b]? = some (.cells cur el (0, 0)) ∧ cur.size = x.R * x.k ∧ CR M ρ inf.size dblk len (cur.toList.take (len * inf.size))) →
               (len = 0 → ∀ x : Own, ρ n = some x → x.R = 0 → ∃ f, dblk = .rows el inf.size 0 f) →
               ∃ ρ' u' w', ρ.le ρ' ∧ (∀ n, n < nm ∨ nm + 8 ≤ n → ρ' n = ρ n) ∧ (execOp a'.eval o).run C.P w = .ok (.value u') w' ∧ VR M ρ' (.sl nm 0 (len + m)) u' ∧ HR M F ρ' (wrH h [(n, none), (nm, some blk)]) w' ∧ Same w w' := by
             intro blk0 dblk blk M F ρ a' h w hvc hb h63 hv hH hbs hfr hcat hreal hghost
             obtain ⟨s1, s2⟩ := srcS_ok hsrc hvc
             obtain ⟨xa, xc, l, hbv, hCR, hfrom⟩ := s2 M F ρ h w _ (hv b mb) hH (fun p hp => hbs p (List.mem_cons_of_mem _ hp))
             have hfrom' : m = 0 ∨ ∃ ad, xa = some ad ∧ ∀ (j : Nat) (u : Value), l[j]? = some u → w.cell? (ad.add j) = some u ∧ u.oneCell' = true := by
               rcases hfrom with h | h | h
               · exact .inl h
               · omega
               · exact .inr h
             have hn := hbs (n, blk0) (List.mem_cons_self ..)
             have hav := hv a ma
             rw [hdst] at hav
             generalize hq : a'.eval a = q at hav
             cases hav with
             | sl _ _ _ x hx hl hR h0 =>
               obtain ⟨cur, c1, c2, c3, c4⟩ := hreal x hx h0 (by omega) hR
               obtain ⟨ρ', v', w', k1, k2, k3, k4, k5, k6⟩ := append_some hH hfr (ty := o.type) hel hinf hzv hzs hk (by rw [hn]; simp) hx h0 hR c1 c2 c3 (by omega) rfl c4 hCR hcat xa xc hfrom' hb h63
               refine ⟨ρ', v', w', k1, k2, hexec a' w w' _ ?_, k4, k5, k6⟩
               rw [hq, hbv]
               simpa using k3
             | sl0 _ _ x hx hR aa =>
               obtain ⟨f, rfl⟩ := hghost rfl x hx hR
               obtain ⟨g, rfl⟩ := catBlk_rows hcat
               have hCR0 : CR M ρ inf.size (.rows el inf.size 0 f) 0 [] := ⟨rfl, rfl, by simp, fun i c hi => by omega⟩
               obtain ⟨c1, c2⟩ := catBlk_ok hk hCR0 hCR hcat
               rw [List.nil_append] at c1
               simp only [Nat.zero_add] at c1 hb h63 ⊢
               rcases Nat.eq_zero_or_pos m with hm | hm
               · subst hm
                 obtain ⟨ρ', k1, k2, k3, k4⟩ := (hH.drop n).ghost hfr el inf.size g
                 refine ⟨ρ', .slice aa 0 0, w, k1, k2, hexec a' w w _ ?_, .sl0 nm 0 _ k3 rfl aa, k4, .refl _⟩
                 rw [hq, hbv]; exact run_append_zero hel hinf aa xa 0 0 xc (Nat.le_refl _) w
               · have hsrc' := hfrom'.resolve_left (by omega)
                 obtain ⟨ρ', v', w', k1, k2, k3, k4, k5, k6⟩ := append_none (hH.drop n) hfr (ty := o.type) hel hinf hzv hzs hk aa xa m xc hm c1 rfl hsrc' hb h63
                 exact ⟨ρ', v', w', k1, k2, hexec a' w w' _ (by rw [hq, hbv]; exact k3), k4, k5, k6⟩
           split at e
           · next ty k' xs hn =>
             split at e
             · next hc =>
               split at e
               · next blk hcat =>
                 cases e
                 rintro ⟨hvc, hb, h63⟩
                 simp only [Bool.and_eq_true] at hc
                 have hk' := Nat.eq_of_beq_eq_true hc.1; subst hk'
                 have hty := Nat.eq_of_beq_eq_true hc.2.1; subst hty
                 have hlen := Nat.eq_of_beq_eq_true hc.2.2
                 obtain ⟨s1, s2⟩ := srcS_ok hsrc hvc
                 refine ⟨ok_value fun M F ρ a' h w hv hH hbs hfr => ?_, ?_, by simp [keysIn]⟩
                 · refine real _ _ blk M F ρ a' h w hvc hb h63 hv hH hbs hfr hcat ?_ ?_
                   · intro x hx h0 hl hR
                     have hn' := hbs _ (List.mem_cons_self ..)
                     obtain ⟨cur, k1, k2, k3, k4, k5, k6⟩ := hH.cells hn' hx
                     refine ⟨cur, k3, k1, by rw [k4, k3], rfl, hlen, ?_, fun j s hs => ?_⟩
                     · rw [List.length_take, Array.length_toList, k4]
                       rw [List.length_take] at hlen; omega
                     · rw [List.getElem?_take] at hs ⊢
                       split at hs
                       · next hj => rw [if_pos hj, Array.getElem?_toList]; exact k6 j s hs
                       · cases hs
                   · intro _ x hx hR0
                     have hn' := hbs _ (List.mem_cons_self ..)
                     obtain ⟨cur, k1, k2, _⟩ := hH.cells hn' hx
                     omega
                 · intro p hp
                   rcases List.mem_cons.1 hp with rfl | hp
                   · exact hn
                   · exact s1 p hp
               · cases e
             · cases e
           · next ty k' L f hn =>
             split at e
             · next hc =>
               split at e
               · next blk hcat =>
                 cases e
                 rintro ⟨hL, hvc, hb, h63⟩
                 simp only [Bool.and_eq_true] at hc
                 have hk' := Nat.eq_of_beq_eq_true hc.1; subst hk'
                 have hty := Nat.eq_of_beq_eq_true hc.2; subst hty
                 obtain ⟨s1, s2⟩ := srcS_ok hsrc hvc
                 refine ⟨ok_value fun M F ρ a' h w hv hH hbs hfr => ?_, ?_, by simp [keysIn]⟩
                 · refine real _ _ blk M F ρ a' h w hvc hb h63 hv hH hbs hfr hcat ?_ ?_
                   · intro x hx h0 hl hR
                     have hn' := hbs _ (List.mem_cons_self ..)
                     obtain ⟨x', hx', hr⟩ := hH.live n _ hn'
                     rw [hx] at hx'; obtain rfl := Option.some.inj hx'
                     rcases hr with ⟨h00, _⟩ | ⟨_, _, _, ob, h3, h4⟩
                     · omega
                     · cases ob with
                       | cells cur T fz =>
                         obtain ⟨rfl, rfl, g1, g2, g3, g4⟩ := h4
                         refine ⟨cur, g1, h3, by rw [g2, g1], rfl, rfl, ?_, fun i c hi hcc => ?_⟩
                         · rw [List.length_take, Array.length_toList, g2]
                           have : len * inf.size ≤ x.R * inf.size := Nat.mul_le_mul_right _ hl
                           omega
                         · obtain ⟨u, u1, u2⟩ := g4 i c (by omega) hcc
                           have : (i + 1) * inf.size ≤ len * inf.size := Nat.mul_le_mul_right _ hi
                           rw [Nat.succ_mul] at this
                           exact ⟨u, by rw [List.getElem?_take, if_pos (by omega), Array.getElem?_toList]; exact u1, u2⟩
                       | _ => exact h4.elim
                   · rintro rfl x hx hR0; exact ⟨f, rfl⟩
                 · intro p hp
                   rcases List.mem_cons.1 hp with rfl | hp
                   · exact hn
                   · exact s1 p hp
               · cases e
             · cases e
           · cases e
         · cases e
       · cases e
     · cases e
   · cases e
 · cases e
end Go.Proofs.YtpdojmebloekgaaDoor.Nice
namespace Go.Proofs.YtpdojmebloekgaaDoor.Nice
open Go
set_option linter.unusedVariables false
theorem fn_case {M : Imm} {ρ : Names} {f : FuncId} {caps : List SV} {v : Value} (h : VR M ρ (.fn f caps) v) : ∃ vs : Array Value, v = .func (.func f) #[] vs ∧ vs.size = caps.length ∧ ∀ (i : Nat) (x : SV), caps[i]? = some x → ∃ u, vs[i]? = some u ∧ VR M ρ x u := by
 cases h with
 | fn _ _ vs g hs hg hr => exact ⟨vs, rfl, hs, fun i x hx => ⟨g i, hg i (List.getElem?_eq_some_iff.1 hx).1, hr i x hx⟩⟩
theorem agg_case {M : Imm} {ρ : Names} {xs : List SV} {v : Value} (h : VR M ρ (.agg xs) v) : ∃ vs : Array Value, v = .agg vs ∧ RL M ρ xs vs := by
 cases h with
 | agg _ vs g hs hg hr => exact ⟨vs, rfl, hs, fun i x hx => ⟨g i, hg i (List.getElem?_eq_some_iff.1 hx).1, hr i x hx⟩⟩
theorem tup_case {M : Imm} {ρ : Names} {xs : List SV} {v : Value} (h : VR M ρ (.tup xs) v) : ∃ vs : Array Value, v = .tuple vs ∧ RL M ρ xs vs := by
 cases h with
 | tup _ vs g hs hg hr => exact ⟨vs, rfl, hs, fun i x hx => ⟨g i, hg i (List.getElem?_eq_some_iff.1 hx).1, hr i x hx⟩⟩
def nilCheckS (x : SV) : Option Out :=
 match x with
 | .ptr .. | .vp .. | .fn .. => some (True, [], x, [])
 | _ => none
theorem nilCheck_ok {C : Ctx} {o : Oper} {nm : Nat} {v : Operand → SV} {h : Heap} {x : Out} {y : Operand} (ho : o.op = .nilCheck y) (e : nilCheckS (v y) = some x) : Sound C o nm v h x := by
 unfold nilCheckS at e
 split at e
 · next hy =>
   cases e
   intro _
   refine ⟨ok_pure fun M F ρ a h w hv hH _ => ⟨a.eval y, ?_, hv y (by rw [ho]; exact mem_ops1)⟩, fun p hp => by simp at hp, rfl⟩
   have := hv y (by rw [ho]; exact mem_ops1); rw [hy] at this
   generalize hq : a.eval y = q at this
   cases this; simp [execOp, ho, hq]
 · next hy =>
   cases e
   intro _
   refine ⟨ok_pure fun M F ρ a h w hv hH _ => ⟨a.eval y, ?_, hv y (by rw [ho]; exact mem_ops1)⟩, fun p hp => by simp at hp, rfl⟩
   have := hv y (by rw [ho]; exact mem_ops1); rw [hy] at this
   generalize hq : a.eval y = q at this
   cases this; simp [execOp, ho, hq]
 · next hy =>
   cases e
   intro _
   refine ⟨ok_pure fun M F ρ a h w hv hH _ => ⟨a.eval y, ?_, hv y (by rw [ho]; exact mem_ops1)⟩, fun p hp => by simp at hp, rfl⟩
   have := hv y (by rw [ho]; exact mem_ops1); rw [hy] at this
   generalize hq : a.eval y = q at this
   cases this; simp [execOp, ho, hq]
 · cases e
def fieldAddrS (P : Program) (t : TypeId) (x : SV) (f : Nat) : Option Out :=
 match P.underlying t with
 | some (.struct fs) =>
   match fs.toList[f]? with
   | some fd =>
     match P.info? fd.type with
     | some i => if Nat.blt 0 i.size then
         match x with
         | .ptr n r c => some (True, [], .ptr n r (c + fd.offset), [])
         | .vp k l g r c => some (True, [], .vp k l g r (c + fd.offset), [])
         | _ => none
       else none
     | none => none
   | none => none
 | _ => none
theorem fieldAddr_ok {C : Ctx} {o : Oper} {nm : Nat} {v : Operand → SV} {h : Heap} {x : Out} {t : TypeId} {y : Operand} {f : Nat} (ho : o.op = .fieldAddr t y f) (e : fieldAddrS C.P t (v y) f = some x) : Sound C o nm v h x := by
 unfold fieldAddrS at e
 split at e
 · next fs hfs =>
   split at e
   · next fd hfd =>
     split at e
     · next i hi =>
       split at e
       · next hpos =>
         have hpos : i.size ≠ 0 := by have : 0 < i.size := by simpa using hpos
                                      omega
         have hfd' : fs[f]? = some fd := by simpa using hfd
         have run : ∀ (b off : Nat) (w : World), (Instr.fieldAt t (.pointer (some ⟨b, off, none⟩)) f).run C.P w = .ok (.pointer (some ⟨b, off + fd.offset, none⟩)) w := by
           intro b off w
           simp [Instr.fieldAt, run_underlying hfs, hfd', Instr.sureAddr, fieldPlace, sizeOf, typeInfo, hi, hpos, Addr.add_lit]
         split at e
         · next n r c hy =>
           cases e
           intro _
           refine ⟨ok_pure fun M F ρ a h w hv hH _ => ?_, fun p hp => by simp at hp, rfl⟩
           have := hv y (by rw [ho]; exact mem_ops1); rw [hy] at this
           generalize hq : a.eval y = q at this
           cases this with
           | ptr _ _ _ z hz =>
             refine ⟨_, by simp [execOp, ho, hq, run]; rfl, ?_⟩
             have := VR.ptr (M := M) n r (c + fd.offset) z hz
             rw [Nat.add_assoc]; exact this
         · next k l g r c hy =>
           cases e
           intro _
           refine ⟨ok_pure fun M F ρ a h w hv hH _ => ?_, fun p hp => by simp at hp, rfl⟩
           have := hv y (by rw [ho]; exact mem_ops1); rw [hy] at this
           generalize hq : a.eval y = q at this
           cases this with
           | vp _ _ _ _ _ b off cur T fz g' hb hg hr =>
             refine ⟨_, by simp [execOp, ho, hq, run]; rfl, ?_⟩
             have := VR.vp (M := M) (ρ := ρ) k l g r (c + fd.offset) b off cur T fz g' hb hg hr
             rw [Nat.add_assoc (off + r * k)]; exact this
         · cases e
       · cases e
     · cases e
   · cases e
 · cases e
def fieldS (P : Program) (t : TypeId) (x : SV) (f : Nat) : Option Out :=
 match P.underlying t with
 | some (.struct fs) =>
   match fs.toList[f]? with
   | some fd =>
     match P.info? fd.type, isAggB P fd.type with
     | some i, some true => match x with
       | .agg xs => if Nat.ble (fd.offset + i.size) xs.length then some (True, [], .agg ((xs.drop fd.offset).take i.size), []) else none
       | _ => none
     | some i, some false => match x with
       | .agg xs => match xs[fd.offset]? with
         | some y => some (True, [], y, [])
         | none => none
       | _ => none
     | _, _ => none
   | none => none
 | _ => none
theorem field_ok {C : Ctx} {o : Oper} {nm : Nat} {v : Operand → SV} {h : Heap} {x : Out} {t : TypeId} {y : Operand} {f : Nat} (ho : o.op = .field t y f) (e : fieldS C.P t (v y) f = some x) : Sound C o nm v h x := by
 unfold fieldS at e
 split at e
 · next fs hfs =>
   split at e
   · next fd hfd =>
     have hfd' : fs[f]? = some fd := by simpa using hfd
     split at e
     · next i hi hag =>
       split at e
       · next xs hy =>
         split at e
         · next hle =>
           cases e
           intro _
           refine ⟨ok_pure fun M F ρ a h w hv hH _ => ?_, fun p hp => by simp at hp, rfl⟩
           have := hv y (by rw [ho]; exact mem_ops1); rw [hy] at this
           obtain ⟨vs, hq, hRL⟩ := agg_case this
           have hle := Nat.le_of_ble_eq_true hle
           refine ⟨.agg (vs.extract fd.offset (fd.offset + i.size)), by simp [execOp, ho, hq, Instr.field, run_underlying hfs, hfd', asAgg, part, run_isAgg hag, sizeOf, typeInfo, hi], .aggOf _ _ ?_ fun j s hs => ?_⟩
           · rw [Array.size_extract, List.length_take, List.length_drop, hRL.1]; omega
           · rw [List.getElem?_take] at hs
             split at hs
             · next hj =>
               rw [List.getElem?_drop] at hs
               obtain ⟨u, u1, u2⟩ := hRL.2 _ s hs
               refine ⟨u, ?_, u2⟩
               rw [Array.getElem?_extract, if_pos (by have := hRL.1; omega)]; exact u1
             · cases hs
         · cases e
       · cases e
     · next i hi hag =>
       split at e
       · next xs hy =>
         split at e
         · next y' hy' =>
           cases e
           intro _
           refine ⟨ok_pure fun M F ρ a h w hv hH _ => ?_, fun p hp => by simp at hp, rfl⟩
           have := hv y (by rw [ho]; exact mem_ops1); rw [hy] at this
           obtain ⟨vs, hq, hRL⟩ := agg_case this
           obtain ⟨u, u1, u2⟩ := hRL.2 _ _ hy'
           exact ⟨u, by simp [execOp, ho, hq, Instr.field, run_underlying hfs, hfd', asAgg, part, run_isAgg hag, u1], u2⟩
         · cases e
       · cases e
     · cases e
   · cases e
 · cases e
def indexAddrS (P : Program) (t : TypeId) (x ix : SV) (h : Heap) : Option Out :=
 match ix with
 | .d (.val (.int kk n)) =>
   match P.underlying t with
   | some (.slice e) =>
     match P.info? e with
     | some i =>
       match x with
       | .d (.vec k len f) => if Nat.beq k i.size then some (0 ≤ n ∧ n < len, [], .vp k len f n.toNat 0, []) else none
       | .sl m o len =>
         match h m with
         | some (.cells ty k xs) => if Nat.beq k i.size then some (0 ≤ n ∧ n < len, [(m, .cells ty k xs)], .ptr m (o + n.toNat) 0, []) else none
         | some (.rows ty k L f) => if Nat.beq k i.size then some ((0 ≤ n ∧ n < len) ∧ 0 < L, [(m, .rows ty k L f)], .ptr m (o + n.toNat) 0, []) else none
         | _ => none
       | _ => none
     | none => none
   | some (.array len e) =>
     match P.info? e with
     | some i =>
       match x with
       | .ptr m r c => some (0 ≤ n ∧ n < len, [], .ptr m r (c + n.toNat * i.size), [])
       | .vp k l f r c => if Nat.beq k i.size && Nat.beq c 0 then some (0 ≤ n ∧ n < len, [], .vp k l f (r + n.toNat) 0, []) else some (0 ≤ n ∧ n < len, [], .vp k l f r (c + n.toNat * i.size), [])
       | _ => none
     | none => none
   | _ => none
 | _ => none
theorem indexAddr_ok {C : Ctx} {o : Oper} {nm : Nat} {v : Operand → SV} {h : Heap} {x : Out} {t : TypeId} {y ix : Operand} (ho : o.op = .indexAddr t y ix) (e : indexAddrS C.P t (v y) (v ix) h = some x) : Sound C o nm v h x := by
 have my : y ∈ o.op.operands := by rw [ho]; exact mem_ops2 (.inl rfl)
 have mi : ix ∈ o.op.operands := by rw [ho]; exact mem_ops2 (.inr rfl)
 unfold indexAddrS at e
 split at e
 · next kk n hix =>
   have hval : ∀ {M : Imm} {ρ : Names} {a : Act}, (∀ x, x ∈ o.op.operands → VR M ρ (v x) (a.eval x)) → a.eval ix = .int kk n := by
     intro M ρ a hv
     have := hv ix mi; rw [hix] at this; exact this.val
   split at e
   · next el hel =>
     split at e
     · next i hi =>
       have run : ∀ (ad : Addr) (len cap : Nat) (w : World), 0 ≤ n → n < len → (Instr.indexAt t (.slice (some ad) len cap) (.int kk n)).run C.P w = .ok (.pointer (some (ad.add (n.toNat * i.size)))) w := by
         intro ad len cap w h0 h1
         simp [Instr.indexAt, asIntOf, run_underlying hel, h0, h1, sizeOf, typeInfo, hi]
       split at e
       · next k len f hy =>
         split at e
         · next hk =>
           cases e
           rintro ⟨h0, h1⟩
           have hk := Nat.eq_of_beq_eq_true hk; subst hk
           refine ⟨ok_pure fun M F ρ a h w hv hH _ => ?_, fun p hp => by simp at hp, rfl⟩
           have := hv y my; rw [hy] at this
           generalize hq : a.eval y = q at this
           cases this with
           | d _ _ hd =>
             cases hd with
             | vec0 => exfalso; omega
             | vec _ _ _ b off cap cur T fz g hb hc hg hr =>
               refine ⟨_, by simp only [execOp, ho, hq, hval hv, Sem.run_bind, run ⟨b, off, none⟩ len cap w h0 h1, Result.andThen_ok, Sem.run_pure]; rfl, ?_⟩
               have := VR.vp (M := M) (ρ := ρ) i.size len f n.toNat 0 b off cur T fz g hb hg hr
               rw [Addr.add_lit]; simpa using this
         · cases e
       · next m off len hy =>
         have core : ∀ (blk : Blk) (extra : Prop), h m = some blk → (∀ (M F : Imm) (ρ : Names) (h' : Heap) (w : World) (x : Own), extra → HR M F ρ h' w → h' m = some blk → ρ m = some x → 0 < x.R → x.k = i.size) →
             (0 ≤ n ∧ n < len) → extra → Sound C o nm v h (True, [(m, blk)], .ptr m (off + n.toNat) 0, []) := by
           rintro blk extra hm hwid ⟨h0, h1⟩ hex _
           refine ⟨ok_pure fun M F ρ a h' w hv hH hbs => ?_, fun p hp => by simp at hp; subst hp; exact hm, rfl⟩
           have hav := hv y my; rw [hy] at hav
           generalize hq : a.eval y = q at hav
           cases hav with
           | sl _ _ _ x hx hl hR hR0 =>
             have hxk := hwid M F ρ h' w x hex hH (hbs _ (List.mem_singleton.2 rfl)) hx hR0
             refine ⟨_, by simp only [execOp, ho, hq, hval hv, Sem.run_bind, run ⟨x.b, off * x.k, none⟩ len (x.R - off) w h0 h1, Result.andThen_ok, Sem.run_pure]; rfl, ?_⟩
             have := VR.ptr (M := M) m (off + n.toNat) 0 x hx
             rw [Addr.add_lit, ← hxk, ← Nat.add_mul]; simpa using this
           | sl0 _ _ x hx hR aa => exfalso; omega
         split at e
         · next ty k xs hm =>
           split at e
           · next hk =>
             cases e
             have hk := Nat.eq_of_beq_eq_true hk
             intro hvc
             exact core _ True hm (fun M F ρ h' w x _ hH hm' hx _ => by obtain ⟨cur, _, _, h3, _⟩ := hH.cells hm' hx; rw [h3, hk]) hvc trivial trivial
           · cases e
         · next ty k L f hm =>
           split at e
           · next hk =>
             cases e
             have hk := Nat.eq_of_beq_eq_true hk
             rintro ⟨hvc, hL⟩
             exact core _ (0 < L) hm (fun M F ρ h' w x hL hH hm' hx _ => by obtain ⟨cur, _, _, h3, _⟩ := hH.rows hm' hL hx; rw [h3, hk]) hvc hL trivial
           · cases e
         · cases e
       · cases e
     · cases e
   · next alen el hel =>
     split at e
     · next i hi =>
       have run : ∀ (ad : Addr) (w : World), 0 ≤ n → n < alen → (Instr.indexAt t (.pointer (some ad)) (.int kk n)).run C.P w = .ok (.pointer (some (ad.add (n.toNat * i.size)))) w := by
         intro ad w h0 h1
         simp [Instr.indexAt, asIntOf, run_underlying hel, h0, h1, sizeOf, typeInfo, hi, Instr.sureAddr]
       split at e
       · next m r c hy =>
         cases e
         rintro ⟨h0, h1⟩
         refine ⟨ok_pure fun M F ρ a h w hv hH _ => ?_, fun p hp => by simp at hp, rfl⟩
         have := hv y my; rw [hy] at this
         generalize hq : a.eval y = q at this
         cases this with
         | ptr _ _ _ z hz =>
           refine ⟨_, by simp only [execOp, ho, hq, hval hv, Sem.run_bind, run _ w h0 h1, Result.andThen_ok, Sem.run_pure]; rfl, ?_⟩
           have := VR.ptr (M := M) m r (c + n.toNat * i.size) z hz
           rw [Addr.add_lit, Nat.add_assoc]; exact this
       · next k l f r c hy =>
         split at e
         · next hk =>
           cases e
           rintro ⟨h0, h1⟩
           simp only [Bool.and_eq_true] at hk
           have hk1 := Nat.eq_of_beq_eq_true hk.1; subst hk1
           have hk2 := Nat.eq_of_beq_eq_true hk.2; subst hk2
           refine ⟨ok_pure fun M F ρ a h w hv hH _ => ?_, fun p hp => by simp at hp, rfl⟩
           have := hv y my; rw [hy] at this
           generalize hq : a.eval y = q at this
           cases this with
           | vp _ _ _ _ _ b off cur T fz g hb hg hr =>
             refine ⟨_, by simp only [execOp, ho, hq, hval hv, Sem.run_bind, run _ w h0 h1, Result.andThen_ok, Sem.run_pure]; rfl, ?_⟩
             have := VR.vp (M := M) (ρ := ρ) i.size l f (r + n.toNat) 0 b off cur T fz g hb hg hr
             rw [Addr.add_lit]
             rw [Nat.add_mul] at this
             simpa [Nat.add_assoc] using this
         · cases e
           rintro ⟨h0, h1⟩
           refine ⟨ok_pure fun M F ρ a h w hv hH _ => ?_, fun p hp => by simp at hp, rfl⟩
           have := hv y my; rw [hy] at this
           generalize hq : a.eval y = q at this
           cases this with
           | vp _ _ _ _ _ b off cur T fz g hb hg hr =>
             refine ⟨_, by simp only [execOp, ho, hq, hval hv, Sem.run_bind, run _ w h0 h1, Result.andThen_ok, Sem.run_pure]; rfl, ?_⟩
             have := VR.vp (M := M) (ρ := ρ) k l f r (c + n.toNat * i.size) b off cur T fz g hb hg hr
             rw [Addr.add_lit, Nat.add_assoc (off + r * k)]; exact this
       · cases e
     · cases e
   · cases e
 · cases e
def indexS (P : Program) (t : TypeId) (x ix : SV) : Option Out :=
 match x, ix with
 | .d (.val (.string s)), .d (.val (.int kk n)) =>
   match P.underlying t with
   | some .string => some (0 ≤ n ∧ n < s.size, [], .d (.val (.int .u8 ((s.data.getD n.toNat 0).toNat : Int))), [])
   | _ => none
 | _, _ => none
theorem index_ok {C : Ctx} {o : Oper} {nm : Nat} {v : Operand → SV} {h : Heap} {x : Out} {t : TypeId} {y ix : Operand} (ho : o.op = .index t y ix) (e : indexS C.P t (v y) (v ix) = some x) : Sound C o nm v h x := by
 unfold indexS at e
 split at e
 · next s kk n hy hix =>
   split at e
   · next hst =>
     cases e
     rintro ⟨h0, h1⟩
     refine ⟨ok_pure fun M F ρ a h w hv hH _ => ⟨_, ?_, .d _ _ (.val _ rfl)⟩, fun p hp => by simp at hp, rfl⟩
     have e1 := hv y (by rw [ho]; exact mem_ops2 (.inl rfl)); rw [hy] at e1
     have e2 := hv ix (by rw [ho]; exact mem_ops2 (.inr rfl)); rw [hix] at e2
     have hlt : n.toNat < s.size := by omega
     have hget : s[n.toNat]? = some (s.data.getD n.toNat 0) := by
       have h2 : n.toNat < s.data.size := hlt
       rw [getElem?_pos s n.toNat hlt]
       simp only [Array.getD]
       rw [dif_pos h2]; rfl
     simp [execOp, ho, e1.val, e2.val, Instr.index, asIntOf, run_underlying hst, h0, hget]
   · cases e
 · cases e
def makeFuncS (fn : Go.Fn) (first : List Operand) (caps : List SV) : Option Out :=
 match fn, first with
 | .func f, [] => some (True, [], .fn f caps, [])
 | _, _ => none
def mapV (v : Operand → SV) : List Operand → List SV
 | [] => []
 | x :: r => v x :: mapV v r
theorem mapV_get {v : Operand → SV} : ∀ (l : List Operand) (i : Nat), (mapV v l)[i]? = (l[i]?).map v
 | [], i => by simp [mapV]
 | x :: r, 0 => by simp [mapV]
 | x :: r, i + 1 => by simp [mapV, mapV_get r i]
theorem mapV_length {v : Operand → SV} : ∀ (l : List Operand), (mapV v l).length = l.length
 | [] => rfl
 | x :: r => by simp [mapV, mapV_length r]
theorem mapV_rel {M : Imm} {ρ : Names} {a : Act} {v : Operand → SV} {xs : Array Operand} (hv : ∀ x, x ∈ xs → VR M ρ (v x) (a.eval x)) : RL M ρ (mapV v xs.toList) (xs.map a.eval) := by
 refine ⟨by simp [mapV_length], fun i x hx => ?_⟩
 rw [mapV_get, Array.getElem?_toList] at hx
 cases hi : xs[i]? with
 | none => rw [hi] at hx; cases hx
 | some y =>
   rw [hi] at hx; cases hx
   exact ⟨a.eval y, by simp [hi], hv y (Array.mem_of_getElem? hi)⟩
theorem makeFunc_ok {C : Ctx} {o : Oper} {nm : Nat} {v : Operand → SV} {h : Heap} {x : Out} {fn : Go.Fn} {first caps : Array Operand} (ho : o.op = .makeFunc fn first caps) (e : makeFuncS fn first.toList (mapV v caps.toList) = some x) : Sound C o nm v h x := by
 unfold makeFuncS at e
 split at e
 · next f hfirst =>
   cases e
   intro _
   have hfe : first = #[] := by cases first; simp_all
   subst hfe
   refine ⟨ok_pure fun M F ρ a h w hv hH _ => ?_, fun p hp => by simp at hp, rfl⟩
   have hr := mapV_rel (M := M) (ρ := ρ) (a := a) (v := v) (xs := caps) (fun x hx => hv x (by rw [ho]; simp [Op.operands, hx]))
   refine ⟨.func (.func f) #[] (caps.map a.eval), by simp [execOp, ho, Instr.makeFunc], ?_⟩
   refine .fn f _ _ (fun i => (caps.map a.eval).getD i undef) hr.1 (fun i hi => ?_) fun i x hx => ?_
   · have : i < (caps.map a.eval).size := by rw [hr.1]; exact hi
     simp only [Array.getD, this, dite_true]
     exact Array.getElem?_eq_getElem this
   · obtain ⟨u, u1, u2⟩ := hr.2 i x hx
     rw [Array.getD_eq_getD_getElem?, u1]; exact u2
 · cases e
def makeMapS (nm : Nat) (r : Option Operand) : Option Out :=
 match r with
 | none => some (True, [], .map nm, [(nm, some (.map []))])
 | some _ => none
theorem makeMap_ok {C : Ctx} {o : Oper} {nm : Nat} {v : Operand → SV} {h : Heap} {x : Out} {t : TypeId} {r : Option Operand} (ho : o.op = .makeMap t r) (e : makeMapS nm r = some x) : Sound C o nm v h x := by
 unfold makeMapS at e
 split at e
 · cases e
   intro _
   refine ⟨ok_value fun M F ρ a h w hv hH _ hfr => ?_, fun p hp => by simp at hp, by simp [keysIn]⟩
   obtain ⟨ρ', k1, k2, k3, k4⟩ := new_block hH hfr 1 1 (by omega) (.map []) (.map #[] 0) (by
     intro ρ' _
     exact ⟨⟨rfl, rfl⟩, fun j e hj => by simp at hj⟩)
   refine ⟨ρ', .map (some w.heap.size), _, k1, k2, ?_, .map nm _ k3, k4, Same.alloc _ _⟩
   simp [execOp, ho, Instr.makeMap]
 · cases e
def zeroRow (zs : List SV) : Nat → Nat → D := fun _ c => match zs[c]? with | some (.d x) => x | _ => .any
def makeSliceS (P : Program) (nm : Nat) (t : TypeId) (l c : SV) : Option Out :=
 match l, c with
 | .d (.val (.int _ n)), .d (.val (.int _ m)) =>
   match P.underlying t with
   | some (.slice e) =>
     match P.info? e, zerosOf P e with
     | some i, some z => if Nat.blt 0 z.length then some (0 ≤ n ∧ m = n ∧ n * i.bytes ≤ limB ∧ n ≤ 1000000000000, [], .sl nm 0 n.toNat, [(nm, some (.rows e z.length n.toNat (zeroRow (toSVs z))))]) else none
     | _, _ => none
   | _ => none
 | _, _ => none
theorem makeSlice_ok {C : Ctx} {o : Oper} {nm : Nat} {v : Operand → SV} {h : Heap} {x : Out} {t : TypeId} {l c : Operand} (ho : o.op = .makeSlice t l c) (e : makeSliceS C.P nm t (v l) (v c) = some x) : Sound C o nm v h x := by
 unfold makeSliceS at e
 split at e
 · next k1 n k2 m hl hc =>
   split at e
   · next el hel =>
     split at e
     · next i z hi hz =>
       split at e
       · next hpos =>
         cases e
         rintro ⟨h0, rfl, hb, h63⟩
         have hpos : 0 < z.length := by simpa using hpos
         obtain ⟨i', zv, hi', hzv, hzl, hlen, hone⟩ := zerosOf_ok hz
         rw [hi] at hi'; obtain rfl := Option.some.inj hi'
         refine ⟨ok_value fun M F ρ a h w hv hH _ hfr => ?_, fun p hp => by simp at hp, by simp [keysIn]⟩
         have e1 := hv l (by rw [ho]; exact mem_ops2 (.inl rfl)); rw [hl] at e1
         have e2 := hv c (by rw [ho]; exact mem_ops2 (.inr rfl)); rw [hc] at e2
         have hr := run_make (P := C.P) w t el i zv hel hi hzv k1 k2 m m h0 (Int.le_refl _) (by unfold limB at hb; rw [Int.mul_comm]; omega) (by omega)
         have hex : (execOp a.eval o).run C.P w = .ok (.value (.slice (some ⟨w.heap.size, 0, none⟩) m.toNat m.toNat)) (w.alloc (.cells (madeCells zv.cells (m.toNat * i.size)) el)) := by
           simp [execOp, ho, e1.val, e2.val, hr]
         rcases Nat.eq_zero_or_pos m.toNat with hz0 | hz0
         · obtain ⟨ρ', g1, g2, g3, g4⟩ := hH.ghost hfr el z.length (zeroRow (toSVs z))
           refine ⟨ρ', _, _, g1, g2, hex, ?_, ?_, Same.alloc _ _⟩
           · rw [hz0]; exact .sl0 nm 0 _ g3 rfl _
           · rw [hz0]
             exact g4.beside _
         · obtain ⟨ρ', g1, g2, g3, g4⟩ := new_block hH hfr z.length m.toNat hz0 (.rows el z.length m.toNat (zeroRow (toSVs z))) (.cells (madeCells zv.cells (m.toNat * i.size)) el) (by
             intro ρ' _
             refine ⟨rfl, rfl, rfl, by rw [size_madeCells, hlen], Nat.le_refl _, fun r q hr hq => ?_⟩
             have hzs : zv.cells.size = z.length := by rw [← hzl, Array.length_toList]
             have hlt : r * z.length + q < m.toNat * i.size := by
               rw [← hlen]
               have : (r + 1) * z.length ≤ m.toNat * z.length := Nat.mul_le_mul_right _ hr
               rw [Nat.succ_mul] at this; omega
             refine ⟨z[q]'hq, ?_, ?_⟩
             · have : zv.cells[(r * z.length + q) % zv.cells.size]! = z[q]'hq := by
                 rw [hzs, Nat.mul_add_mod_self_right, Nat.mod_eq_of_lt hq]
                 rw [getElem!_pos zv.cells q (by rw [hzs]; exact hq)]
                 have : zv.cells.toList[q]'(by rw [Array.length_toList, hzs]; exact hq) = z[q]'hq := by simp only [hzl]
                 simpa using this
               simp [madeCells, hlt, this]
             · have hq' : z[q]? = some (z[q]'hq) := List.getElem?_eq_getElem hq
               have hsv : (toSVs z)[q]? = some (toSV (z[q]'hq)) := by rw [toSVs_get, hq']; rfl
               have hvr := toSV_ok (M := M) (ρ := ρ) (hone _ (List.getElem_mem hq))
               unfold zeroRow
               rw [hsv]
               generalize z[q]'hq = u at hvr ⊢
               have hd : ∃ x, toSV u = .d x := by
                 unfold toSV; split
                 · exact ⟨_, rfl⟩
                 · exact ⟨_, rfl⟩
               obtain ⟨x, hx⟩ := hd
               rw [hx] at hvr ⊢
               cases hvr with | d _ _ h => exact h)
           refine ⟨ρ', _, _, g1, g2, hex, ?_, g4, Same.alloc _ _⟩
           have := VR.sl (M := M) nm 0 m.toNat _ g3 (by simp) (by show m.toNat ≤ maxLen; simp only [maxLen]; omega) hz0
           simpa using this
       · cases e
     · cases e
   · cases e
 · cases e
def extractS (x : SV) (i : Nat) : Option Out :=
 match x with
 | .tup xs => match xs[i]? with
   | some y => some (True, [], y, [])
   | none => none
 | _ => none
theorem extract_ok {C : Ctx} {o : Oper} {nm : Nat} {v : Operand → SV} {h : Heap} {x : Out} {y : Operand} {i : Nat} (ho : o.op = .extract y i) (e : extractS (v y) i = some x) : Sound C o nm v h x := by
 unfold extractS at e
 split at e
 · next xs hy =>
   split at e
   · next z hz =>
     cases e
     intro _
     refine ⟨ok_pure fun M F ρ a h w hv hH _ => ?_, fun p hp => by simp at hp, rfl⟩
     have := hv y (by rw [ho]; exact mem_ops1); rw [hy] at this
     obtain ⟨vs, hq, hRL⟩ := tup_case this
     obtain ⟨u, u1, u2⟩ := hRL.2 _ _ hz
     exact ⟨u, by simp [execOp, ho, hq, Instr.extract, u1], u2⟩
   · cases e
 · cases e
/- len -/
def lenS (P : Program) (t : TypeId) (x : SV) (h : Heap) : Option Out :=
 match P.underlying t, x with
 | some (.slice _), .d .nils => some (True, [], SV.i 0, [])
 | some (.slice _), .d (.vec _ len _) => some (True, [], SV.i len, [])
 | some (.slice _), .sl _ _ len => some (True, [], SV.i len, [])
 | some .string, .d (.val (.string s)) => some (True, [], SV.i s.size, [])
 | some (.map _ _), .map n => match h n with
   | some (.map es) => some (True, [(n, .map es)], SV.i es.length, [])
   | _ => none
 | _, _ => none
theorem HR.mapB {M F : Imm} {ρ : Names} {h : Heap} {w : World} (H : HR M F ρ h w) {n : Nat} {es : List (Value × D)} (hn : h n = some (.map es)) {x : Own} (hx : ρ n = some x) :
   0 < x.R ∧ ∃ ents, w.heap[x.b]? = some (.map ents ents.size) ∧ ents.size = es.length ∧ ∀ (j : Nat) (e : Value × D), es[j]? = some e → ∃ y : MapEntry, ents[j]? = some y ∧ y.key = e.1 ∧ DR M e.2 y.val ∧ y.born = j := by
 obtain ⟨x', hx', hr⟩ := H.live n _ hn
 rw [hx] at hx'; obtain rfl := Option.some.inj hx'
 rcases hr with ⟨_, hg⟩ | ⟨h0, _, _, o, h3, h4⟩
 · simp [Blk.ghost] at hg
 · cases o with
   | map ents cl =>
     obtain ⟨⟨h5, rfl⟩, h6⟩ := h4
     exact ⟨h0, ents, h3, h5, h6⟩
   | _ => exact h4.elim
theorem HR.map {M F : Imm} {ρ : Names} {h : Heap} {w : World} (H : HR M F ρ h w) {n : Nat} {es : List (Value × D)} (hn : h n = some (.map es)) {x : Own} (hx : ρ n = some x) :
   0 < x.R ∧ ∃ ents, w.heap[x.b]? = some (.map ents ents.size) ∧ ents.size = es.length ∧ ∀ (j : Nat) (e : Value × D), es[j]? = some e → ∃ y : MapEntry, ents[j]? = some y ∧ y.key = e.1 ∧ DR M e.2 y.val := by
 obtain ⟨h0, ents, h1, h2, h3⟩ := H.mapB hn hx
 exact ⟨h0, ents, h1, h2, fun j e he => let ⟨y, a, b, c, _⟩ := h3 j e he; ⟨y, a, b, c⟩⟩
theorem run_getObj_map {P : Program} {w : World} {b : Nat} {ents : Array MapEntry} {cl : Nat} (h : w.heap[b]? = some (.map ents cl)) : (getObj b).run P w = .ok (.map ents cl) w := by
 simp only [getObj, Sem.run, h]
theorem len_ok {C : Ctx} {o : Oper} {nm : Nat} {v : Operand → SV} {h : Heap} {x : Out} {t : TypeId} {y : Operand} (ho : o.op = .call { callee := .builtin .len, args := #[y], argTypes := #[t] }) (e : lenS C.P t (v y) h = some x) : Sound C o nm v h x := by
 have my : y ∈ o.op.operands := by rw [ho]; simp [Op.operands, Call.operands]
 have hexec : ∀ (a : Act) (w w' : World) (u : Value), (Builtin.len_ #[t] o.type #[a.eval y]).run C.P w = .ok u w' → (execOp a.eval o).run C.P w = .ok (.value u) w' := by
   intro a w w' u hr
   unfold execOp
   simp only [ho, resolve, invoke, builtin, Sem.run_bind, Sem.run_pure, Result.andThen_ok, List.map_toArray, List.map_cons, List.map_nil, hr]
 unfold lenS at e
 split at e
 · next el hu hy =>
   cases e
   intro _
   refine ⟨ok_pure fun M F ρ a h w hv hH _ => ⟨.int .i64 0, hexec a w w _ ?_, .d _ _ (.val _ rfl)⟩, fun p hp => by simp at hp, rfl⟩
   have := hv y my; rw [hy] at this
   generalize hq : a.eval y = q at this
   cases this with | d _ _ hd => cases hd; simp [Builtin.len_, run_underlying hu, goInt]
 · next el k len f hu hy =>
   cases e
   intro _
   refine ⟨ok_pure fun M F ρ a h w hv hH _ => ⟨.int .i64 len, hexec a w w _ ?_, .d _ _ (.val _ rfl)⟩, fun p hp => by simp at hp, rfl⟩
   have := hv y my; rw [hy] at this
   generalize hq : a.eval y = q at this
   cases this with | d _ _ hd => cases hd <;> simp [Builtin.len_, run_underlying hu, goInt]
 · next el n off len hu hy =>
   cases e
   intro _
   refine ⟨ok_pure fun M F ρ a h w hv hH _ => ⟨.int .i64 len, hexec a w w _ ?_, .d _ _ (.val _ rfl)⟩, fun p hp => by simp at hp, rfl⟩
   have := hv y my; rw [hy] at this
   generalize hq : a.eval y = q at this
   cases this <;> simp [Builtin.len_, run_underlying hu, goInt]
 · next s hu hy =>
   cases e
   intro _
   refine ⟨ok_pure fun M F ρ a h w hv hH _ => ⟨.int .i64 s.size, hexec a w w _ ?_, .d _ _ (.val _ rfl)⟩, fun p hp => by simp at hp, rfl⟩
   have := hv y my; rw [hy] at this
   rw [this.val]; simp [Builtin.len_, run_underlying hu, goInt]
 · next kt el n hu hy =>
   split at e
   · next es hn =>
     cases e
     intro _
     refine ⟨ok_pure fun M F ρ a h w hv hH hbs => ⟨.int .i64 es.length, hexec a w w _ ?_, .d _ _ (.val _ rfl)⟩, fun p hp => by simp at hp; subst hp; exact hn, rfl⟩
     have := hv y my; rw [hy] at this
     generalize hq : a.eval y = q at this
     cases this with
     | map _ z hz =>
       obtain ⟨_, ents, k1, k2, _⟩ := hH.map (hbs _ (List.mem_singleton.2 rfl)) hz
       simp [Builtin.len_, run_underlying hu, run_getObj_map k1, goInt, k2]
   · cases e
 · cases e
/- division and shifts by a number that is not written out -/
def divS (op : BinOp) (x y : SV) : Option Out :=
 match x, y with
 | .d (.val (.int k a)), .d (.val (.int k' b)) =>
   if k = k' then
     match op with
     | .quo => some (b ≠ 0, [], .d (.val (.int k (k.wrap (a.tdiv b)))), [])
     | .rem => some (b ≠ 0, [], .d (.val (.int k (a.tmod b))), [])
     | _ => none
   else none
 | _, _ => none
theorem div_ok {C : Ctx} {o : Oper} {nm : Nat} {v : Operand → SV} {h : Heap} {x : Out} {op : BinOp} {t t' : TypeId} {y z : Operand} (ho : o.op = .binOp op t y z t') (e : divS op (v y) (v z) = some x) : Sound C o nm v h x := by
 unfold divS at e
 split at e
 · next k a k' b hy hz =>
   split at e
   · next hk =>
     subst hk
     split at e
     · cases e
       intro hb
       refine ⟨ok_pure fun M F ρ a' h w hv hH _ => ⟨_, ?_, .d _ _ (.val _ rfl)⟩, fun p hp => by simp at hp, rfl⟩
       have e1 := hv y (by rw [ho]; exact mem_ops2 (.inl rfl)); rw [hy] at e1
       have e2 := hv z (by rw [ho]; exact mem_ops2 (.inr rfl)); rw [hz] at e2
       have hb : b ≠ 0 := hb
       simp [execOp, ho, e1.val, e2.val, eqGuard, binOp, Op.intDiv, hb]
     · cases e
       intro hb
       refine ⟨ok_pure fun M F ρ a' h w hv hH _ => ⟨_, ?_, .d _ _ (.val _ rfl)⟩, fun p hp => by simp at hp, rfl⟩
       have e1 := hv y (by rw [ho]; exact mem_ops2 (.inl rfl)); rw [hy] at e1
       have e2 := hv z (by rw [ho]; exact mem_ops2 (.inr rfl)); rw [hz] at e2
       have hb : b ≠ 0 := hb
       simp [execOp, ho, e1.val, e2.val, eqGuard, binOp, Op.intDiv, hb]
     · cases e
   · cases e
 · cases e
def shiftS (op : BinOp) (x y : SV) : Option Out :=
 match x, y with
 | .d (.val (.int k a)), .d (.val (.int _ b)) =>
   match op with
   | .shl => some (0 ≤ b, [], .d (.val (.int k (k.wrap (a * 2 ^ (min b.toNat k.bits))))), [])
   | .shr => some (0 ≤ b, [], .d (.val (.int k (a.fdiv (2 ^ (min b.toNat k.bits))))), [])
   | _ => none
 | _, _ => none
theorem shift_ok {C : Ctx} {o : Oper} {nm : Nat} {v : Operand → SV} {h : Heap} {x : Out} {op : BinOp} {t t' : TypeId} {y z : Operand} (ho : o.op = .binOp op t y z t') (e : shiftS op (v y) (v z) = some x) : Sound C o nm v h x := by
 unfold shiftS at e
 split at e
 · next k a k' b hy hz =>
   split at e
   · cases e
     intro hb
     refine ⟨ok_pure fun M F ρ a' h w hv hH _ => ⟨_, ?_, .d _ _ (.val _ rfl)⟩, fun p hp => by simp at hp, rfl⟩
     have e1 := hv y (by rw [ho]; exact mem_ops2 (.inl rfl)); rw [hy] at e1
     have e2 := hv z (by rw [ho]; exact mem_ops2 (.inr rfl)); rw [hz] at e2
     have hb : ¬ b < 0 := by have : 0 ≤ b := hb
                             omega
     simp [execOp, ho, e1.val, e2.val, eqGuard, binOp, Op.shift, hb]
   · cases e
     intro hb
     refine ⟨ok_pure fun M F ρ a' h w hv hH _ => ⟨_, ?_, .d _ _ (.val _ rfl)⟩, fun p hp => by simp at hp, rfl⟩
     have e1 := hv y (by rw [ho]; exact mem_ops2 (.inl rfl)); rw [hy] at e1
     have e2 := hv z (by rw [ho]; exact mem_ops2 (.inr rfl)); rw [hz] at e2
     have hb : ¬ b < 0 := by have : 0 ≤ b := hb
                             omega
     simp [execOp, ho, e1.val, e2.val, eqGuard, binOp, Op.shift, hb]
   · cases e
 · cases e
end Go.Proofs.YtpdojmebloekgaaDoor.Nice
