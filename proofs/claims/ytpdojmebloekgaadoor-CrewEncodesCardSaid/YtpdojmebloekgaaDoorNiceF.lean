/- Operations, second part: new variables, struct values, places, slices, function values, calls of the built-ins, calls. -/
import Derived.Test.YtpdojmebloekgaaDoorNiceE
namespace Go.Proofs.YtpdojmebloekgaaDoor.Nice
open Go
set_option linter.unusedVariables false

theorem mem_ops1 {x : Operand} : x ∈ (#[x] : Array Operand) := by simp

def moveS (u : SV) : Out := (True, [], u, [])
theorem move_ok {C : Ctx} {o : Oper} {nm : Nat} {v : Operand → SV} {h : Heap} {y : Operand} (ho : o.op = .move y ∨ o.op = .assign y) : Sound C o nm v h (moveS (v y)) := by
  intro _
  refine ⟨ok_pure fun M F ρ a h w hv hH _ => ⟨a.eval y, ?_, ?_⟩, fun p hp => by simp [moveS] at hp, rfl⟩
  · rcases ho with ho | ho <;> simp [execOp, ho]
  · rcases ho with ho | ho <;> exact hv y (by rw [ho]; exact mem_ops1)

def pickS (c a b : SV) : Option Out :=
  match c with
  | .d (.val (.bool true)) => some (True, [], a, [])
  | .d (.val (.bool false)) => some (True, [], b, [])
  | _ => none
theorem pick_ok {C : Ctx} {o : Oper} {nm : Nat} {v : Operand → SV} {h : Heap} {x : Out} {c a b : Operand} (ho : o.op = .pick c a b) (e : pickS (v c) (v a) (v b) = some x) : Sound C o nm v h x := by
  have m : ∀ y, y = c ∨ y = a ∨ y = b → y ∈ o.op.operands := by
    intro y hy; rw [ho]; rcases hy with rfl | rfl | rfl <;> simp [Op.operands]
  unfold pickS at e
  split at e
  · next hc =>
    cases e
    intro _
    refine ⟨ok_pure fun M F ρ a' h w hv hH _ => ⟨a'.eval a, ?_, hv a (m a (.inr (.inl rfl)))⟩, fun p hp => by simp at hp, rfl⟩
    have := hv c (m c (.inl rfl)); rw [hc] at this
    simp [execOp, ho, this.val, asBool]
  · next hc =>
    cases e
    intro _
    refine ⟨ok_pure fun M F ρ a' h w hv hH _ => ⟨a'.eval b, ?_, hv b (m b (.inr (.inr rfl)))⟩, fun p hp => by simp at hp, rfl⟩
    have := hv c (m c (.inl rfl)); rw [hc] at this
    simp [execOp, ho, this.val, asBool]
  · cases e

/- new variables -/
def toSV : Value → SV
  | .slice none 0 0 => .d .nils
  | v => .d (.val v)
theorem toSV_ok {M : Imm} {ρ : Names} {v : Value} (h : v.oneCell' = true) : VR M ρ (toSV v) v := by
  cases v with
  | slice a l c =>
    cases a with
    | none => cases l with
      | zero => cases c with
        | zero => exact .d _ _ (.nils _)
        | succ c => exact .d _ _ (.val _ rfl)
      | succ l => exact .d _ _ (.val _ rfl)
    | some a => exact .d _ _ (.val _ rfl)
  | agg _ => simp [Value.oneCell'] at h
  | tuple _ => simp [Value.oneCell'] at h
  | _ => exact .d _ _ (.val _ rfl)
def toSVs : List Value → List SV
  | [] => []
  | v :: r => toSV v :: toSVs r
theorem toSVs_length : ∀ l, (toSVs l).length = l.length
  | [] => rfl
  | v :: r => by simp [toSVs, toSVs_length r]
theorem toSVs_get : ∀ (l : List Value) (i : Nat), (toSVs l)[i]? = (l[i]?).map toSV
  | [], i => by simp [toSVs]
  | v :: r, 0 => by simp [toSVs]
  | v :: r, i + 1 => by simp [toSVs, toSVs_get r i]
def zerosOf (P : Program) (t : TypeId) : Option (List Value) :=
  match P.info? t with
  | some i => match i.zero with
    | some z => if Nat.beq z.cells.toList.length i.size && z.cells.toList.all Value.oneCell' then some z.cells.toList else none
    | none => none
  | none => none
theorem zerosOf_ok {P : Program} {t : TypeId} {l : List Value} (h : zerosOf P t = some l) : ∃ i z, P.info? t = some i ∧ i.zero = some z ∧ z.cells.toList = l ∧ l.length = i.size ∧ ∀ u, u ∈ l → u.oneCell' = true := by
  unfold zerosOf at h
  split at h
  · next i hi =>
    split at h
    · next z hz =>
      split at h
      · next hc =>
        cases h
        simp only [Bool.and_eq_true, List.all_eq_true] at hc
        exact ⟨i, z, hi, hz, rfl, Nat.eq_of_beq_eq_true hc.1, hc.2⟩
      · cases h
    · cases h
  · cases h

theorem new_block {M F : Imm} {ρ : Names} {h : Heap} {w : World} (hH : HR M F ρ h w) {nm : Nat} (hfr : ∀ n, nm ≤ n → n < nm + 8 → ρ n = none) (k R : Nat) (hR : 0 < R) (blk : Blk) (obj : Obj)
    (hB : ∀ ρ' : Names, ρ.le ρ' → BR M ρ' ⟨w.heap.size, k, R⟩ blk obj) (hfm : ∀ S es, blk ≠ .fam S es := by intro S es h; cases h) :
    ∃ ρ' : Names, ρ.le ρ' ∧ (∀ n, n < nm ∨ nm + 8 ≤ n → ρ' n = ρ n) ∧ ρ' nm = some ⟨w.heap.size, k, R⟩ ∧ HR M F ρ' (upd h nm (some blk)) (w.alloc obj) := by
  obtain ⟨ρ', rfl, h1, h2⟩ := hH.push nm (hfr nm (Nat.le_refl _) (by omega)) k R hR blk obj hH.beyond hB hfm
  refine ⟨_, h1, fun n hn => ?_, by simp, h2⟩
  have : n ≠ nm := by omega
  simp [this]

def allocS (P : Program) (nm : Nat) (t : TypeId) : Option Out :=
  match zerosOf P t with
  | some l => some (True, [], .ptr nm 0 0, [(nm, some (.cells t l.length (toSVs l)))])
  | none => none
theorem alloc_ok {C : Ctx} {o : Oper} {nm : Nat} {v : Operand → SV} {h : Heap} {x : Out} {t : TypeId} (ho : o.op = .alloc t) (e : allocS C.P nm t = some x) : Sound C o nm v h x := by
  unfold allocS at e
  split at e
  · next l hl =>
    cases e
    intro _
    obtain ⟨i, z, hi, hz, hzl, hlen, hone⟩ := zerosOf_ok hl
    refine ⟨ok_value fun M F ρ a h w hv hH _ hfr => ?_, fun p hp => by simp at hp, by simp [keysIn]⟩
    have hsz : z.cells.size = l.length := by rw [← hzl, Array.length_toList]
    obtain ⟨ρ', k1, k2, k3, k4⟩ := new_block hH hfr l.length 1 (by omega) (.cells t l.length (toSVs l)) (.cells z.cells t) (by
      intro ρ' hρ'
      refine ⟨rfl, rfl, rfl, by simp [hsz], by rw [toSVs_length, hsz]; exact Nat.le_refl _, fun j s hs => ?_⟩
      rw [toSVs_get] at hs
      cases hj : l[j]? with
      | none => rw [hj] at hs; cases hs
      | some u =>
        rw [hj] at hs; cases hs
        refine ⟨u, by rw [← hj, ← hzl, Array.getElem?_toList], toSV_ok (hone u (List.mem_of_getElem? hj))⟩)
    refine ⟨ρ', .pointer (some ⟨w.heap.size, 0, none⟩), _, k1, k2, ?_, ?_, k4, Same.alloc _ _⟩
    · simp [execOp, ho, Instr.alloc, zeroValue, typeInfo, hi, hz, newVar, newRow]
    · have := VR.ptr (M := M) nm 0 0 _ k3
      simpa using this
  · cases e

def boxS (nm : Nat) (t : TypeId) (x : SV) : Option Out :=
  match flat x with
  | some ys => if allOne ys then some (True, [], .ptr nm 0 0, [(nm, some (.cells t ys.length ys))]) else none
  | none => none
theorem box_ok {C : Ctx} {o : Oper} {nm : Nat} {v : Operand → SV} {h : Heap} {x : Out} {t : TypeId} {y : Operand} (ho : o.op = .box t y) (e : boxS nm t (v y) = some x) : Sound C o nm v h x := by
  unfold boxS at e
  split at e
  · next ys hys =>
    split at e
    · next h1 =>
      cases e
      intro _
      refine ⟨ok_value fun M F ρ a h w hv hH _ hfr => ?_, fun p hp => by simp at hp, by simp [keysIn]⟩
      obtain ⟨f1, f2, f3⟩ := flat_ok (hv y (by rw [ho]; exact mem_ops1)) hys h1
      obtain ⟨ρ', k1, k2, k3, k4⟩ := new_block hH hfr ys.length 1 (by omega) (.cells t ys.length ys) (.cells (a.eval y).cells t) (by
        intro ρ' hρ'
        exact ⟨rfl, rfl, rfl, by simp [f1], by rw [f1]; exact Nat.le_refl _, fun j s hs => let ⟨u, u1, u2⟩ := f2 j s hs; ⟨u, u1, u2.mono (Imm.le_refl _) hρ'⟩⟩)
      refine ⟨ρ', .pointer (some ⟨w.heap.size, 0, none⟩), _, k1, k2, ?_, ?_, k4, Same.alloc _ _⟩
      · simp [execOp, ho, Instr.box, newVar, newRow]
      · have := VR.ptr (M := M) nm 0 0 _ k3
        simpa using this
    · cases e
  · cases e

/- values of structs -/
def fillS (places : List (Nat × Nat)) : List SV → List (Nat × SV) → Option (List SV)
  | xs, [] => some xs
  | xs, (i, x) :: r =>
    match places[i]?, flat x with
    | some (off, size), some ys => if Nat.beq ys.length size && (Nat.ble (off + ys.length) xs.length && allOne ys) then fillS places (xs.take off ++ ys ++ xs.drop (off + ys.length)) r else none
    | _, _ => none

def RL (M : Imm) (ρ : Names) (xs : List SV) (vs : Array Value) : Prop := vs.size = xs.length ∧ ∀ (i : Nat) (x : SV), xs[i]? = some x → ∃ u, vs[i]? = some u ∧ VR M ρ x u

theorem foldl_put (off : Nat) : ∀ (l : List Value) (j0 : Nat) (cs : Array Value), off + j0 + l.length ≤ cs.size →
    ((l.zipIdx j0).foldl (fun cs (p : Value × Nat) => cs.setIfInBounds (off + p.2) p.1) cs) = (cs.toList.take (off + j0) ++ l ++ cs.toList.drop (off + j0 + l.length)).toArray
  | [], j0, cs, _ => by simp
  | v :: r, j0, cs, h => by
    simp only [List.zipIdx_cons, List.foldl_cons]
    rw [foldl_put off r (j0 + 1) _ (by simp at h ⊢; omega)]
    have e := list_seg_step cs.toList (off + j0) v r (by simp at h ⊢; omega)
    congr 1
    simpa [Array.toList_setIfInBounds, Nat.add_assoc] using e

theorem fill_ok {M : Imm} {ρ : Names} (places : List (Nat × Nat)) (place : Nat → Option (Nat × Nat)) (hp : ∀ i, place i = places[i]?) : ∀ (parts : List (Nat × SV)) (vparts : List (Nat × Value)) (xs zs : List SV) (vs : Array Value),
    vparts.length = parts.length → (∀ (j i : Nat) (x : SV), parts[j]? = some (i, x) → ∃ u, vparts[j]? = some (i, u) ∧ VR M ρ x u) → RL M ρ xs vs → fillS places xs parts = some zs →
    ∃ us, Instr.fill place vs vparts = some us ∧ RL M ρ zs us
  | [], [], xs, zs, vs, _, _, hr, e => by simp [fillS] at e; subst e; exact ⟨vs, rfl, hr⟩
  | [], _ :: _, _, _, _, hl, _, _, _ => by simp at hl
  | _ :: _, [], _, _, _, hl, _, _, _ => by simp at hl
  | (i, x) :: parts, (i', u) :: vparts, xs, zs, vs, hl, hrel, hr, e => by
    obtain ⟨u', h1, h2⟩ := hrel 0 i x rfl
    simp at h1
    obtain ⟨rfl, rfl⟩ := h1
    simp only [fillS] at e
    split at e
    · next off size ys hpl hys =>
      split at e
      · next hc =>
        simp only [Bool.and_eq_true] at hc
        have c1 := Nat.eq_of_beq_eq_true hc.1
        have c2 := Nat.le_of_ble_eq_true hc.2.1
        obtain ⟨f1, f2, f3⟩ := flat_ok h2 hys hc.2.2
        have hfit : off + 0 + u.cells.toList.length ≤ vs.size := by rw [Array.length_toList, f1, hr.1]; omega
        have hnew : RL M ρ (xs.take off ++ ys ++ xs.drop (off + ys.length)) (vs.toList.take off ++ u.cells.toList ++ vs.toList.drop (off + u.cells.toList.length)).toArray := by
          have hlen : u.cells.toList.length = ys.length := by rw [Array.length_toList, f1]
          refine ⟨?_, fun j s hs => ?_⟩
          · simp only [List.size_toArray, List.length_append, List.length_take, List.length_drop, Array.length_toList, hr.1]
            rw [f1]
          · rw [seg_get _ _ _ _ c2] at hs
            rw [List.getElem?_toArray, seg_get _ _ _ _ (by rw [Array.length_toList]; simpa using hfit), hlen]
            split
            · next hj => rw [if_pos hj] at hs; rw [Array.getElem?_toList]; exact hr.2 j s hs
            · next hj =>
              rw [if_neg hj] at hs
              split
              · next hj2 => rw [if_pos hj2] at hs; rw [Array.getElem?_toList]; exact f2 _ s hs
              · next hj2 => rw [if_neg hj2] at hs; rw [Array.getElem?_toList]; exact hr.2 j s hs
        obtain ⟨us, g1, g2⟩ := fill_ok places place hp parts vparts _ zs _ (by simpa using hl) (fun j k y hy => hrel (j + 1) k y (by simpa using hy)) hnew e
        refine ⟨us, ?_, g2⟩
        have hcond : ¬ (u.cells.size ≠ size ∨ off + u.cells.size > vs.size) := by rw [f1, c1, hr.1]; omega
        simp only [Instr.fill, hp, hpl]
        rw [if_neg (by simpa using hcond)]
        rw [← g1]
        congr 1
        have := foldl_put off u.cells.toList 0 vs hfit
        simp only [Nat.add_zero] at this
        rw [← this, ← Array.foldl_toList, Array.toList_zipIdx]
      · cases e
    · cases e

def placesOf (P : Program) : List Field → Option (List (Nat × Nat))
  | [] => some []
  | f :: r => match P.info? f.type, placesOf P r with
    | some i, some l => some ((f.offset, i.size) :: l)
    | _, _ => none
def svParts (v : Operand → SV) : List (Nat × Operand) → List (Nat × SV)
  | [] => []
  | (i, x) :: r => (i, v x) :: svParts v r
theorem svParts_get {v : Operand → SV} : ∀ (l : List (Nat × Operand)) (j i : Nat) (s : SV), (svParts v l)[j]? = some (i, s) → ∃ x, l[j]? = some (i, x) ∧ s = v x
  | [], j, i, s, h => by simp [svParts] at h
  | (k, x) :: r, 0, i, s, h => by simp [svParts] at h; exact ⟨x, by simp [h.1], h.2.symm⟩
  | (k, x) :: r, j + 1, i, s, h => by simp [svParts] at h; obtain ⟨y, h1, h2⟩ := svParts_get r j i s h; exact ⟨y, by simpa using h1, h2⟩
theorem svParts_length {v : Operand → SV} : ∀ (l : List (Nat × Operand)), (svParts v l).length = l.length
  | [] => rfl
  | (k, x) :: r => by simp [svParts, svParts_length r]

theorem run_places {P : Program} {w : World} : ∀ (fs : List Field) (l : List (Nat × Nat)), placesOf P fs = some l → ((fs.mapM fun f => do pure (f.offset, ← sizeOf f.type) : Sem (List (Nat × Nat)))).run P w = .ok l w
  | [], l, h => by simp [placesOf] at h; subst h; rfl
  | f :: r, l, h => by
    simp only [placesOf] at h
    split at h
    · next i l' hi hl' =>
      cases h
      have ih := run_places (w := w) r l' hl'
      have h1 : (do pure (f.offset, ← sizeOf f.type) : Sem (Nat × Nat)).run P w = .ok (f.offset, i.size) w := by simp [sizeOf, typeInfo, hi]
      simp only [List.mapM_cons, Sem.run_bind, h1, ih, Result.andThen_ok, Sem.run_pure]
    · cases h

def buildS (P : Program) (t : TypeId) (parts : List (Nat × SV)) : Option Out :=
  match P.underlying t with
  | some (.struct fs) =>
    match zerosOf P t, placesOf P fs.toList with
    | some z, some pl => match fillS pl (toSVs z) parts with
      | some xs => some (True, [], .agg xs, [])
      | none => none
    | _, _ => none
  | _ => none
theorem mem_build {parts : Array (Nat × Operand)} {i : Nat} {x : Operand} (h : (i, x) ∈ parts.toList) (t : TypeId) : x ∈ (Op.build t parts).operands := by
  simp only [Op.operands]
  rw [List.mem_toArray]
  exact List.mem_map.2 ⟨(i, x), h, rfl⟩
theorem parts_rel {M : Imm} {ρ : Names} {a : Act} {v : Operand → SV} {parts : Array (Nat × Operand)} (hv : ∀ i x, (i, x) ∈ parts.toList → VR M ρ (v x) (a.eval x)) :
    (parts.map fun (i, x) => (i, a.eval x)).toList.length = (svParts v parts.toList).length ∧
    ∀ (j i : Nat) (s : SV), (svParts v parts.toList)[j]? = some (i, s) → ∃ u, (parts.map fun (i, x) => (i, a.eval x)).toList[j]? = some (i, u) ∧ VR M ρ s u := by
  refine ⟨by simp [svParts_length], fun j i s hj => ?_⟩
  obtain ⟨x, h1, rfl⟩ := svParts_get _ j i s hj
  refine ⟨a.eval x, ?_, hv i x (List.mem_of_getElem? h1)⟩
  rw [Array.getElem?_toList] at h1
  simp [h1]
theorem toSVs_RL {M : Imm} {ρ : Names} {l : List Value} {vs : Array Value} (hl : vs.toList = l) (h1 : ∀ u, u ∈ l → u.oneCell' = true) : RL M ρ (toSVs l) vs := by
  refine ⟨by rw [toSVs_length, ← hl, Array.length_toList], fun i x hx => ?_⟩
  rw [toSVs_get] at hx
  cases hj : l[i]? with
  | none => rw [hj] at hx; cases hx
  | some u =>
    rw [hj] at hx; cases hx
    exact ⟨u, by rw [← hj, ← hl, Array.getElem?_toList], toSV_ok (h1 u (List.mem_of_getElem? hj))⟩
theorem RL.agg {M : Imm} {ρ : Names} {xs : List SV} {vs : Array Value} (h : RL M ρ xs vs) : VR M ρ (.agg xs) (.agg vs) := .aggOf xs vs h.1 h.2

theorem build_ok {C : Ctx} {o : Oper} {nm : Nat} {v : Operand → SV} {h : Heap} {x : Out} {t : TypeId} {parts : Array (Nat × Operand)} (ho : o.op = .build t parts) (e : buildS C.P t (svParts v parts.toList) = some x) : Sound C o nm v h x := by
  unfold buildS at e
  split at e
  · next fs hfs =>
    split at e
    · next z pl hz hpl =>
      split at e
      · next xs hxs =>
        cases e
        intro _
        refine ⟨ok_pure fun M F ρ a h w hv hH _ => ?_, fun p hp => by simp at hp, rfl⟩
        obtain ⟨i, zv, hi, hzv, hzl, hlen, hone⟩ := zerosOf_ok hz
        obtain ⟨p1, p2⟩ := parts_rel (M := M) (ρ := ρ) (a := a) (v := v) (parts := parts) (fun i x hx => hv x (by rw [ho]; exact mem_build hx t))
        obtain ⟨us, g1, g2⟩ := fill_ok (M := M) (ρ := ρ) pl (pl.toArray[·]?) (fun i => by simp) (svParts v parts.toList) _ (toSVs z) xs zv.cells p1 p2 (toSVs_RL hzl hone) hxs
        refine ⟨.agg us, ?_, g2.agg⟩
        have hm : (fs.mapM fun f => do pure (f.offset, ← sizeOf f.type) : Sem (Array (Nat × Nat))).run C.P w = .ok pl.toArray w := by
          rw [Array.mapM_eq_mapM_toList]
          simp only [Sem.run_map, run_places fs.toList pl hpl, Result.andThen_ok]
        simp only [execOp, ho, Instr.build, zeroValue, typeInfo, Sem.run_bind, run_program, Result.andThen_ok, hi, Sem.run_pure, hzv, run_underlying hfs, hm, g1]
      · cases e
    · cases e
  · cases e

/-- A literal of a slice. -/
def repS (z : List SV) : Nat → List SV
  | 0 => []
  | n + 1 => z ++ repS z n
def unitPlaces (k : Nat) : Nat → Nat → List (Nat × Nat)
  | _, 0 => []
  | i, n + 1 => (i * k, k) :: unitPlaces k (i + 1) n
theorem unitPlaces_get (k : Nat) : ∀ (n i j : Nat), (unitPlaces k i n)[j]? = if j < n then some ((i + j) * k, k) else none
  | 0, i, j => by simp [unitPlaces]
  | n + 1, i, 0 => by simp [unitPlaces]
  | n + 1, i, j + 1 => by
    simp only [unitPlaces, List.getElem?_cons_succ, unitPlaces_get k n (i + 1) j]
    by_cases h : j < n
    · rw [if_pos h, if_pos (by omega), show i + 1 + j = i + (j + 1) by omega]
    · rw [if_neg h, if_neg (by omega)]

def sliceLitS (P : Program) (nm : Nat) (t : TypeId) (len : Nat) (parts : List (Nat × SV)) : Option Out :=
  match P.underlying t with
  | some (.slice e) =>
    match zerosOf P e with
    | some z =>
      if Nat.blt 0 z.length && (Nat.blt 0 len && (Nat.ble (len * z.length) 65536 && parts.all fun p => Nat.blt p.1 len)) then
        match fillS (unitPlaces z.length 0 len) (repS (toSVs z) len) parts with
        | some xs => if Nat.beq xs.length (len * z.length) then some (True, [], .sl nm 0 len, [(nm, some (.cells e z.length xs))]) else none
        | none => none
      else none
    | none => none
  | _ => none

theorem repS_length (z : List SV) : ∀ n, (repS z n).length = n * z.length
  | 0 => by simp [repS]
  | n + 1 => by simp [repS, repS_length z n, Nat.succ_mul, Nat.add_comm]
theorem repS_get (z : List SV) (hz : 0 < z.length) : ∀ (n i : Nat), i < n * z.length → (repS z n)[i]? = z[i % z.length]?
  | 0, i, h => by simp at h
  | n + 1, i, h => by
    simp only [repS]
    by_cases hi : i < z.length
    · rw [List.getElem?_append_left hi, Nat.mod_eq_of_lt hi]
    · rw [List.getElem?_append_right (by omega), repS_get z hz n (i - z.length) (by rw [Nat.succ_mul] at h; omega)]
      rw [Nat.mod_eq_sub_mod (a := i) (by omega)]

theorem fill_bound {places : List (Nat × Nat)} {place place' : Nat → Option (Nat × Nat)} {n : Nat} (hp : ∀ i, i < n → place i = place' i) : ∀ (parts : List (Nat × Value)) (vs : Array Value), (∀ p, p ∈ parts → p.1 < n) →
    Instr.fill place vs parts = Instr.fill place' vs parts
  | [], vs, _ => rfl
  | (i, u) :: r, vs, h => by
    simp only [Instr.fill, hp i (h (i, u) (List.mem_cons_self ..))]
    split
    · rfl
    · split
      · rfl
      · exact fill_bound (places := places) hp r _ fun p hp => h p (List.mem_cons_of_mem _ hp)

theorem sliceLit_ok {C : Ctx} {o : Oper} {nm : Nat} {v : Operand → SV} {h : Heap} {x : Out} {t : TypeId} {len : Nat} {parts : Array (Nat × Operand)} (ho : o.op = .buildSlice t len parts) (e : sliceLitS C.P nm t len (svParts v parts.toList) = some x) : Sound C o nm v h x := by
  unfold sliceLitS at e
  split at e
  · next el hel =>
    split at e
    · next z hz =>
      split at e
      · next hc =>
        split at e
        · next xs hxs =>
          split at e
          · next hxl =>
            cases e
            intro _
            have hxl := Nat.eq_of_beq_eq_true hxl
            simp only [Bool.and_eq_true, List.all_eq_true] at hc
            obtain ⟨c1, c2, c3, c4⟩ := hc
            have c1 : 0 < z.length := by simpa using c1
            have c2 : 0 < len := by simpa using c2
            have c3 := Nat.le_of_ble_eq_true c3
            refine ⟨ok_value fun M F ρ a h w hv hH _ hfr => ?_, fun p hp => by simp at hp, by simp [keysIn]⟩
            obtain ⟨i, zv, hi, hzv, hzl, hlen, hone⟩ := zerosOf_ok hz
            have hzsz : zv.cells.size = z.length := by rw [← hzl, Array.length_toList]
            obtain ⟨p1, p2⟩ := parts_rel (M := M) (ρ := ρ) (a := a) (v := v) (parts := parts) (fun i x hx => hv x (by rw [ho]; exact mem_build (t := t) hx))
            have hRL : RL M ρ (repS (toSVs z) len) ((Array.range (len * z.length)).map (zv.cells[· % zv.cells.size]!)) := by
              refine ⟨by simp [repS_length, toSVs_length], fun j s hs => ?_⟩
              have hj : j < len * z.length := by
                have := (List.getElem?_eq_some_iff.1 hs).1
                rw [repS_length, toSVs_length] at this; exact this
              rw [repS_get _ (by rw [toSVs_length]; exact c1) len j (by rw [toSVs_length]; exact hj), toSVs_length, toSVs_get] at hs
              have hm : j % z.length < z.length := Nat.mod_lt _ c1
              have hzj : z[j % z.length]? = some (z[j % z.length]'hm) := List.getElem?_eq_getElem hm
              rw [hzj] at hs; cases hs
              refine ⟨z[j % z.length]'hm, ?_, toSV_ok (hone _ (List.getElem_mem hm))⟩
              have : zv.cells[j % zv.cells.size]! = z[j % z.length]'hm := by
                rw [hzsz]
                have hm' : j % z.length < zv.cells.size := by rw [hzsz]; exact hm
                rw [getElem!_pos zv.cells _ hm']
                have : zv.cells.toList[j % z.length]'(by simpa using hm') = z[j % z.length]'hm := by simp only [hzl]
                simpa using this
              simp [hj, this]
            obtain ⟨us, g1, g2⟩ := fill_ok (M := M) (ρ := ρ) (unitPlaces z.length 0 len) (fun i => (unitPlaces z.length 0 len)[i]?) (fun i => rfl) (svParts v parts.toList) _ (repS (toSVs z) len) xs _ p1 p2 hRL hxs
            have hplace : Instr.fill (fun i => some (i * z.length, z.length)) ((Array.range (len * z.length)).map (zv.cells[· % zv.cells.size]!)) (parts.map fun (i, x) => (i, a.eval x)).toList = some us := by
              rw [← g1]
              refine fill_bound (places := []) (n := len) (fun i hi => ?_) _ _ ?_
              · rw [unitPlaces_get, if_pos hi, Nat.zero_add]
              · intro p hp
                obtain ⟨j, hj⟩ := List.mem_iff_getElem?.1 hp
                rw [Array.getElem?_toList] at hj
                simp only [Array.getElem?_map, Option.map_eq_some_iff] at hj
                obtain ⟨⟨i, y⟩, hy, rfl⟩ := hj
                have hmem : (i, v y) ∈ svParts v parts.toList := by
                  have : ∀ (l : List (Nat × Operand)), (i, y) ∈ l → (i, v y) ∈ svParts v l := by
                    intro l
                    induction l with
                    | nil => intro h; cases h
                    | cons q l ih =>
                      intro h
                      rcases List.mem_cons.1 h with rfl | h
                      · exact List.mem_cons_self ..
                      · exact List.mem_cons_of_mem _ (ih h)
                  exact this _ (by rw [Array.mem_toList_iff]; exact Array.mem_of_getElem? hy)
                simpa using c4 _ hmem
            obtain ⟨ρ', k1, k2, k3, k4⟩ := new_block hH hfr z.length len c2 (.cells el z.length xs) (.cells us el) (by
              intro ρ' hρ'
              exact ⟨rfl, rfl, rfl, by rw [g2.1, hxl], by rw [g2.1]; exact Nat.le_refl _, fun j s hs => let ⟨u, u1, u2⟩ := g2.2 j s hs; ⟨u, u1, u2.mono (Imm.le_refl _) hρ'⟩⟩)
            refine ⟨ρ', .slice (some ⟨w.heap.size, 0, none⟩) len len, _, k1, k2, ?_, ?_, k4, Same.alloc _ _⟩
            · have n1 : ¬ (len * i.size > 2 ^ 24) := by rw [← hlen]; omega
              have n2 : ¬ (len * i.size = 0) := by rw [← hlen]; exact Nat.ne_of_gt (Nat.mul_pos c2 c1)
              rw [← hlen] at n1 n2
              simp only [execOp, ho, Instr.buildSlice, Sem.run_bind, run_underlying hel, Result.andThen_ok, sizeOf, typeInfo, run_program, hi, Sem.run_pure, Sem.run_ite, ← hlen, if_neg n1, if_neg n2, zeroValue, hzv, hplace]
              rfl
            · have hml : len ≤ maxLen := by
                have : len * 1 ≤ len * z.length := Nat.mul_le_mul_left _ c1
                simp only [maxLen]; omega
              have := VR.sl (M := M) nm 0 len _ k3 (by simp) hml c2
              simpa using this
          · cases e
        · cases e
      · cases e
    · cases e
  · cases e
end Go.Proofs.YtpdojmebloekgaaDoor.Nice
