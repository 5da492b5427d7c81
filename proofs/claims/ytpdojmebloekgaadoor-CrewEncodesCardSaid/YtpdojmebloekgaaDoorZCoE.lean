/- What operations list: those that list nothing; loads and stores. -/
import Derived.Test.YtpdojmebloekgaaDoorZCoD
namespace Go.Proofs.YtpdojmebloekgaaDoor.Nice.Co
open Go Go.Conc
set_option linter.unusedVariables false
set_option linter.unusedSimpArgs false


/-- Lists nothing, in whatever world, and leaves what is there. -/
structure Still (P : Program) {α : Type} (s : Sem α) : Prop where
  out : ∀ w es e, e ∈ s.events P w es → e ∈ es ∨ e = noRoomEvent
  keep : ∀ w a w', s.run P w = .ok a w' → ∀ (b : Nat) (o : Obj), w.heap[b]? = some o → w'.heap[b]? = some o
section
variable {P : Program} {α β : Type}
theorem Still.pure (a : α) : Still P (Pure.pure a : Sem α) := ⟨fun w es e h => .inl h, fun w a w' h b o hb => by cases h; exact hb⟩
theorem Still.halt (h : Halt) : Still P (Sem.halt h : Sem α) := ⟨fun w es e h => .inl h, fun w a w' h => by cases h⟩
theorem Still.bind {s : Sem α} {f : α → Sem β} (hs : Still P s) (hf : ∀ a, Still P (f a)) : Still P (s >>= f) := by
  constructor
  · intro w es e h
    rw [Sem.events_bind] at h
    cases hr : s.run P w with
    | halt x w' => rw [hr] at h; exact hs.out w es e h
    | ok a w' =>
      rw [hr] at h
      rcases (hf a).out w' _ e h with h | h
      · exact hs.out w es e h
      · exact .inr h
  · intro w a w' h b o hb
    rw [Sem.run_bind] at h
    cases hr : s.run P w with
    | halt x w1 => rw [hr] at h; cases h
    | ok x w1 => rw [hr] at h; exact (hf x).keep w1 a w' h b o (hs.keep w x w1 hr b o hb)
theorem Still.map {s : Sem α} {f : α → β} (hs : Still P s) : Still P (f <$> s) := by
  show Still P (s.bind fun a => Pure.pure (f a))
  exact hs.bind fun a => .pure _
theorem Still.program : Still P Go.program := ⟨fun w es e h => .inl h, fun w a w' h b o hb => by cases h; exact hb⟩
theorem Still.newObj (o : Obj) : Still P (Go.newObj o) := ⟨fun w es e h => .inl h, fun w a w' h b o' hb => by
  cases h
  show (w.heap.push o)[b]? = some o'
  rw [Array.getElem?_push, if_neg]
  · exact hb
  · have := (Array.getElem?_eq_some_iff.1 hb).1; omega⟩
theorem Still.shape (r : Nat) : Still P (Go.shape r) := ⟨fun w es e h => .inl h, fun w a w' h b o hb => by cases h; exact hb⟩
theorem Still.frozen (a : Addr) : Still P (Go.frozen a) := ⟨fun w es e h => .inl h, fun w a w' h b o hb => by cases h; exact hb⟩
theorem Still.choose (q : Question) : Still P (Go.choose q) := ⟨fun w es e h => by rw [events_choose] at h; exact .inl h, fun w a w' h b o hb => by
  simp only [Go.choose, Sem.run] at h
  split at h <;> (cases h; exact hb)⟩
theorem Still.typeInfo (t : TypeId) : Still P (Go.typeInfo t) := by
  unfold Go.typeInfo
  refine .bind .program fun p => ?_
  split <;> first | exact .pure _ | exact .halt _
theorem Still.underlying (t : TypeId) : Still P (Go.underlying t) := by
  unfold Go.underlying
  refine .bind .program fun p => ?_
  split <;> first | exact .pure _ | exact .halt _
theorem Still.sizeOf (t : TypeId) : Still P (Go.sizeOf t) := .bind (.typeInfo t) fun _ => .pure _
theorem Still.isAgg (t : TypeId) : Still P (Go.isAgg t) := by
  unfold Go.isAgg
  refine .bind (.underlying t) fun p => ?_
  split <;> exact .pure _
theorem Still.zeroValue (t : TypeId) : Still P (Go.zeroValue t) := by
  unfold Go.zeroValue
  refine .bind (.typeInfo t) fun p => ?_
  split <;> first | exact .pure _ | exact .halt _
theorem Still.noRoom : Still P (mark .noRoom) := ⟨fun w es e h => by
  rw [events_mark] at h
  exact (Array.mem_push.1 h).imp id id, fun w a w' h b o hb => by cases h; exact hb⟩
theorem Still.askRoom (n : Nat) : Still P (Go.askRoom n) := by
  unfold Go.askRoom
  split
  · exact .noRoom
  · exact .pure _
theorem Still.runtimePanic (x : RuntimeError) : Still P (Go.runtimePanic x : Sem α) := by
  unfold Go.runtimePanic elemOf newVar newRow
  refine .bind .program fun p => ?_
  cases x <;> first | exact .halt _ | skip
  all_goals
    refine .bind (.bind (.underlying _) fun t => ?_) fun t => .bind (.bind (.newObj _) fun _ => .pure _) fun _ => .halt _
    split <;> first | exact .pure _ | exact .halt _
theorem Still.boundsPanic (k : IntKind) (x y : Int) (c : BoundsCode) : Still P (Go.boundsPanic k x y c : Sem α) := by
  unfold Go.boundsPanic
  dsimp only
  split
  · exact .bind (.map (.choose _)) fun _ => .runtimePanic _
  · exact .bind (.pure _) fun _ => .runtimePanic _
theorem Still.asIntOf (v : Value) : Still P (Go.asIntOf v) := by
  unfold Go.asIntOf
  split <;> first | exact .pure _ | exact .halt _
theorem Still.asInt (v : Value) : Still P (Go.asInt v) := .bind (.asIntOf v) fun _ => .pure _
theorem Still.part (t : TypeId) (cs : Array Value) (o : Nat) : Still P (Go.part t cs o) := by
  unfold Go.part
  refine .bind (.isAgg _) fun b => ?_
  split
  · exact .bind (.sizeOf _) fun _ => .pure _
  · split <;> first | exact .pure _ | exact .halt _
theorem still_alloc (t : TypeId) : Still P (Instr.alloc t true (.tuple #[])) := by
  unfold Instr.alloc newVar newRow
  (repeat (first
    | exact Still.pure _
    | exact Still.halt _
    | exact Still.typeInfo _
    | exact Still.underlying _
    | exact Still.sizeOf _
    | exact Still.isAgg _
    | exact Still.zeroValue _
    | exact Still.choose _
    | exact Still.program
    | exact Still.newObj _
    | exact Still.shape _
    | exact Still.frozen _
    | exact Still.askRoom _
    | exact Still.runtimePanic _
    | exact Still.boundsPanic _ _ _ _
    | exact Still.asIntOf _
    | exact Still.asInt _
    | exact Still.part _ _ _
    | apply Still.map
    | apply Still.bind
    | intro _
    | split
    | (dsimp only)))
theorem still_box (t : TypeId) (v : Value) : Still P (Instr.box t v) := by
  unfold Instr.box newVar newRow
  (repeat (first
    | exact Still.pure _
    | exact Still.halt _
    | exact Still.typeInfo _
    | exact Still.underlying _
    | exact Still.sizeOf _
    | exact Still.isAgg _
    | exact Still.zeroValue _
    | exact Still.choose _
    | exact Still.program
    | exact Still.newObj _
    | exact Still.shape _
    | exact Still.frozen _
    | exact Still.askRoom _
    | exact Still.runtimePanic _
    | exact Still.boundsPanic _ _ _ _
    | exact Still.asIntOf _
    | exact Still.asInt _
    | exact Still.part _ _ _
    | apply Still.map
    | apply Still.bind
    | intro _
    | split
    | (dsimp only)))
theorem still_mapM {f : α → Sem β} (hf : ∀ a, Still P (f a)) : ∀ (l : List α), Still P (l.mapM f)
  | [] => by rw [List.mapM_nil]; exact .pure _
  | a :: l => by rw [List.mapM_cons]; exact .bind (hf a) fun _ => .bind (still_mapM hf l) fun _ => .pure _
theorem still_build (t : TypeId) (ps : Array (Nat × Value)) : Still P (Instr.build t ps) := by
  unfold Instr.build
  refine .bind (.zeroValue _) fun z => .bind (.underlying _) fun d => ?_
  split
  · refine .bind ?_ fun _ => ?_
    · rw [Array.mapM_eq_mapM_toList]
      exact .map (still_mapM (fun f => .bind (.sizeOf _) fun _ => .pure _) _)
    · split <;> first | exact .pure _ | exact .halt _
  · refine .bind (.sizeOf _) fun _ => ?_
    split <;> first | exact .pure _ | exact .halt _
  · exact .halt _
theorem still_buildSlice (t : TypeId) (n : Nat) (ps : Array (Nat × Value)) : Still P (Instr.buildSlice t n ps) := by
  unfold Instr.buildSlice newRow
  (repeat (first
    | exact Still.pure _
    | exact Still.halt _
    | exact Still.typeInfo _
    | exact Still.underlying _
    | exact Still.sizeOf _
    | exact Still.isAgg _
    | exact Still.zeroValue _
    | exact Still.choose _
    | exact Still.program
    | exact Still.newObj _
    | exact Still.shape _
    | exact Still.frozen _
    | exact Still.askRoom _
    | exact Still.runtimePanic _
    | exact Still.boundsPanic _ _ _ _
    | exact Still.asIntOf _
    | exact Still.asInt _
    | exact Still.part _ _ _
    | apply Still.map
    | apply Still.bind
    | intro _
    | split
    | (dsimp only)))
theorem still_indexAt (t : TypeId) (x i : Value) : Still P (Instr.indexAt t x i) := by
  unfold Instr.indexAt Instr.sureAddr
  (repeat (first
    | exact Still.pure _
    | exact Still.halt _
    | exact Still.typeInfo _
    | exact Still.underlying _
    | exact Still.sizeOf _
    | exact Still.isAgg _
    | exact Still.zeroValue _
    | exact Still.choose _
    | exact Still.program
    | exact Still.newObj _
    | exact Still.shape _
    | exact Still.frozen _
    | exact Still.askRoom _
    | exact Still.runtimePanic _
    | exact Still.boundsPanic _ _ _ _
    | exact Still.asIntOf _
    | exact Still.asInt _
    | exact Still.part _ _ _
    | apply Still.map
    | apply Still.bind
    | intro _
    | split
    | (dsimp only)))
theorem still_index (t : TypeId) (x i : Value) : Still P (Instr.index t x i) := by
  unfold Instr.index
  (repeat (first
    | exact Still.pure _
    | exact Still.halt _
    | exact Still.typeInfo _
    | exact Still.underlying _
    | exact Still.sizeOf _
    | exact Still.isAgg _
    | exact Still.zeroValue _
    | exact Still.choose _
    | exact Still.program
    | exact Still.newObj _
    | exact Still.shape _
    | exact Still.frozen _
    | exact Still.askRoom _
    | exact Still.runtimePanic _
    | exact Still.boundsPanic _ _ _ _
    | exact Still.asIntOf _
    | exact Still.asInt _
    | exact Still.part _ _ _
    | apply Still.map
    | apply Still.bind
    | intro _
    | split
    | (dsimp only)))
theorem still_field (t : TypeId) (x : Value) (f : Nat) : Still P (Instr.field t x f) := by
  unfold Instr.field asAgg
  (repeat (first
    | exact Still.pure _
    | exact Still.halt _
    | exact Still.typeInfo _
    | exact Still.underlying _
    | exact Still.sizeOf _
    | exact Still.isAgg _
    | exact Still.zeroValue _
    | exact Still.choose _
    | exact Still.program
    | exact Still.newObj _
    | exact Still.shape _
    | exact Still.frozen _
    | exact Still.askRoom _
    | exact Still.runtimePanic _
    | exact Still.boundsPanic _ _ _ _
    | exact Still.asIntOf _
    | exact Still.asInt _
    | exact Still.part _ _ _
    | apply Still.map
    | apply Still.bind
    | intro _
    | split
    | (dsimp only)))
theorem still_makeSlice (t : TypeId) (x c : Value) : Still P (Instr.makeSlice t x c) := by
  unfold Instr.makeSlice newRow
  (repeat (first
    | exact Still.pure _
    | exact Still.halt _
    | exact Still.typeInfo _
    | exact Still.underlying _
    | exact Still.sizeOf _
    | exact Still.isAgg _
    | exact Still.zeroValue _
    | exact Still.choose _
    | exact Still.program
    | exact Still.newObj _
    | exact Still.shape _
    | exact Still.frozen _
    | exact Still.askRoom _
    | exact Still.runtimePanic _
    | exact Still.boundsPanic _ _ _ _
    | exact Still.asIntOf _
    | exact Still.asInt _
    | exact Still.part _ _ _
    | apply Still.map
    | apply Still.bind
    | intro _
    | split
    | (dsimp only)))
theorem still_fieldAt (t : TypeId) (x : Value) (f : Nat) (h : ∀ fs (d : Field), P.underlying t = some (.struct fs) → fs[f]? = some d → ∃ i, P.info? d.type = some i ∧ 0 < i.size) : ∀ w es e, e ∈ (Instr.fieldAt t x f).events P w es → e ∈ es := by
  intro w es e he
  unfold Instr.fieldAt Instr.sureAddr at he
  rw [Sem.events_bind, events_underlying] at he
  cases hu : P.underlying t with
  | none =>
    have : (Go.underlying t).run P w = .halt (.stuck "no such type") w := by simp [Go.underlying, hu, stuck, Sem.run]
    rw [this] at he; exact he
  | some d =>
    rw [run_underlying hu, Result.evThen_ok] at he
    revert he
    cases d with
    | struct fs =>
      simp only
      cases hf : fs[f]? with
      | none => simp only; exact fun he => he
      | some fd =>
        simp only
        obtain ⟨i, hi, hpos⟩ := h fs fd hu hf
        intro he
        rw [Sem.events_bind] at he
        cases x with
        | pointer p =>
          cases p with
          | some a =>
            simp only [Sem.run_pure, Sem.events_pure, Result.evThen_ok] at he
            have hz : ¬ i.size = 0 := by omega
            unfold fieldPlace at he
            simp [Go.sizeOf, Go.typeInfo, hi, hz] at he
            exact he
          | none => exact he
        | _ => exact he
    | _ => exact fun he => he
end

/-- What an operation lists, where memory is touched in known blocks alone. -/
def At (P : Program) (R Wr : Nat → Prop) {α : Type} (s : Sem α) (w : World) : Prop :=
  ∀ es e, e ∈ s.events P w es → e ∈ es ∨ (∃ ad y, e = ⟨.cell ad, false, y⟩ ∧ R ad.block) ∨ (∃ ad y, e = ⟨.cell ad, true, y⟩ ∧ Wr ad.block) ∨ e = noRoomEvent
section
variable {P : Program} {R Wr : Nat → Prop} {α β : Type} {w : World}
theorem Still.at {s : Sem α} (h : Still P s) : At P R Wr s w := fun es e he => (h.out w es e he).imp id fun h => .inr (.inr h)
theorem At.bind {s : Sem α} {f : α → Sem β} (hs : At P R Wr s w) (hf : ∀ a w', s.run P w = .ok a w' → At P R Wr (f a) w') : At P R Wr (s >>= f) w := by
  intro es e h
  rw [Sem.events_bind] at h
  cases hr : s.run P w with
  | halt x w' => rw [hr] at h; exact hs es e h
  | ok a w' =>
    rw [hr] at h
    rcases hf a w' hr _ e h with h | h
    · exact hs es e h
    · exact .inr h
/-- The block of cells at an address. -/
def CellsAt (w : World) (b : Nat) : Prop := ∃ cs T fz, w.heap[b]? = some (.cells cs T fz)
theorem at_load {a : Addr} (hc : CellsAt w a.block) (hr : R a.block) : At P R Wr (load a) w := by
  intro es e he
  rw [events_load] at he
  obtain ⟨cs, T, fz, hb⟩ := hc
  split at he
  · rcases Array.mem_push.1 he with h | rfl
    · exact .inl h
    · exact .inr (.inl ⟨a, _, rfl, hr⟩)
  · simp only [World.farLoad, hb] at he
    exact .inl he
theorem run_load_world {a : Addr} {v : Value} {w' : World} (h : (load a).run P w = .ok v w') : w' = w := by
  simp only [load, Sem.run] at h
  split at h
  · cases h; rfl
  · split at h
    · cases h; rfl
    · cases h
theorem add_blk (a : Addr) (n : Nat) : (a.add n).block = a.block := by unfold Addr.add; split <;> rfl
theorem at_loadCellsFrom {a : Addr} (hc : CellsAt w a.block) (hr : R a.block) : ∀ (n i : Nat) (acc : Array Value), At P R Wr (loadCellsFrom a i n acc) w
  | 0, i, acc => (Still.pure _).at
  | n + 1, i, acc => by
    unfold loadCellsFrom
    refine .bind (at_load (by rw [add_blk]; exact hc) (by rw [add_blk]; exact hr)) fun v w' hv => ?_
    rw [run_load_world hv]
    exact at_loadCellsFrom hc hr n (i + 1) _
theorem at_store {a : Addr} {v : Value} (hc : CellsAt w a.block) (hr : Wr a.block) : At P R Wr (store a v) w := by
  intro es e he
  obtain ⟨cs, T, fz, hb⟩ := hc
  by_cases h1 : v.oneCell' = true
  · rw [events_store P w es a v _ h1] at he
    split at he
    · split at he
      · exact .inl he
      · rcases Array.mem_push.1 he with h | rfl
        · exact .inl h
        · exact .inr (.inr (.inl ⟨a, _, rfl, hr⟩))
    · simp only [World.farStore, hb] at he
      exact .inl he
  · cases v <;> first | (exact absurd rfl h1) | (simp only [store, Sem.events, Sem.runT] at he; exact .inl he)
theorem run_store_cells {a : Addr} {v : Value} {w' : World} (h : (store a v).run P w = .ok () w') {b : Nat} (hc : CellsAt w b) (ha : CellsAt w a.block) : CellsAt w' b := by
  obtain ⟨cs, T, fz, hb⟩ := hc
  obtain ⟨cs', T', fz', hb'⟩ := ha
  have key : w' = w.setCell a v → CellsAt w' b := by
    rintro rfl
    unfold World.setCell CellsAt
    simp only [Array.getElem?_modify]
    by_cases e : a.block = b
    · subst e; rw [hb]; simp
    · simp [e, hb]
  by_cases h1 : v.oneCell' = true
  · rw [run_store P w a v _ h1] at h
    split at h
    · split at h
      · cases h
      · cases h; exact key rfl
    · simp only [World.farStore, hb'] at h; cases h
  · cases v <;> first | (exact absurd rfl h1) | (simp only [store, Sem.run] at h; cases h)
theorem at_storeCells {a : Addr} (hr : Wr a.block) : ∀ (vs : List Value) (i : Nat) (w : World), CellsAt w a.block → At P R Wr (storeCells a vs i) w
  | [], i, w, hc => (Still.pure _).at
  | v :: vs, i, w, hc => by
    unfold storeCells
    refine .bind (at_store (by rw [add_blk]; exact hc) (by rw [add_blk]; exact hr)) fun _ w' hv => ?_
    exact at_storeCells hr vs (i + 1) w' (run_store_cells hv hc (by rw [add_blk]; exact hc))
theorem at_loadVar {t : TypeId} {a : Addr} (hc : CellsAt w a.block) (hr : R a.block) : At P R Wr (loadVar t a) w := by
  unfold loadVar loadCells
  have one : ∀ {s : Sem Bool} {b : Bool} {w' : World}, s = isAgg t → s.run P w = .ok b w' → w' = w := by
    rintro s b w' rfl h
    unfold isAgg Go.underlying at h
    simp only [Sem.run_bind, run_program, Result.andThen_ok] at h
    cases hu : P.underlying t with
    | none => rw [hu] at h; simp only [stuck, Sem.run, Result.andThen] at h; cases h
    | some d => rw [hu] at h; simp only [Sem.run_pure, Result.andThen_ok] at h; cases d <;> (simp only [Sem.run_pure] at h; cases h; rfl)
  have two : ∀ {n : Nat} {w' : World}, (Go.sizeOf t).run P w = .ok n w' → w' = w := by
    intro n w' h
    unfold Go.sizeOf Go.typeInfo at h
    simp only [Sem.run_bind, run_program, Result.andThen_ok] at h
    cases hu : P.info? t with
    | none => rw [hu] at h; simp only [stuck, Sem.run, Result.andThen] at h; cases h
    | some d => rw [hu] at h; simp only [Sem.run_pure, Result.andThen_ok] at h; cases h; rfl
  refine .bind (Still.at (.isAgg t)) fun b w' hb => ?_
  rw [one rfl hb]
  split
  · refine .bind (Still.at (.sizeOf t)) fun n w' hn => ?_
    rw [two hn]
    exact .bind (at_loadCellsFrom hc hr _ _ _) fun _ _ _ => (Still.pure _).at
  · exact at_load hc hr
theorem at_storeVar {t : TypeId} {a : Addr} {v : Value} (hc : CellsAt w a.block) (hr : Wr a.block) : At P R Wr (storeVar t a v) w := by
  unfold storeVar
  have two : ∀ {n : Nat} {w' : World}, (Go.sizeOf t).run P w = .ok n w' → w' = w := by
    intro n w' h
    unfold Go.sizeOf Go.typeInfo at h
    simp only [Sem.run_bind, run_program, Result.andThen_ok] at h
    cases hu : P.info? t with
    | none => rw [hu] at h; simp only [stuck, Sem.run, Result.andThen] at h; cases h
    | some d => rw [hu] at h; simp only [Sem.run_pure, Result.andThen_ok] at h; cases h; rfl
  refine .bind (Still.at (.sizeOf t)) fun n w' hn => ?_
  rw [two hn]
  split
  · exact .bind (Still.halt _).at fun _ w' h => by simp only [stuck, Sem.run] at h; cases h
  · exact at_storeCells hr _ _ _ hc

/-- The same, where certain blocks hold cells, and go on to hold them. -/
structure Ax (P : Program) (S R Wr : Nat → Prop) {α : Type} (s : Sem α) : Prop where
  at_ : ∀ w, (∀ b, S b → CellsAt w b) → At P R Wr s w
  keep : ∀ w, (∀ b, S b → CellsAt w b) → ∀ a w', s.run P w = .ok a w' → ∀ b, S b → CellsAt w' b
theorem Still.ax {S : Nat → Prop} {s : Sem α} (h : Still P s) : Ax P S R Wr s := ⟨fun w _ => h.at, fun w hS a w' hr b hb => let ⟨cs, T, fz, ho⟩ := hS b hb; ⟨cs, T, fz, h.keep w a w' hr b _ ho⟩⟩
theorem Ax.bind {S : Nat → Prop} {s : Sem α} {f : α → Sem β} (hs : Ax P S R Wr s) (hf : ∀ a, (∃ w w', s.run P w = .ok a w') → Ax P S R Wr (f a)) : Ax P S R Wr (s >>= f) := by
  refine ⟨fun w hS => .bind (hs.at_ w hS) fun a w' hr => (hf a ⟨w, w', hr⟩).at_ w' (hs.keep w hS a w' hr), fun w hS a w' h => ?_⟩
  rw [Sem.run_bind] at h
  cases hr : s.run P w with
  | halt x w1 => rw [hr] at h; cases h
  | ok x w1 => rw [hr] at h; exact (hf x ⟨w, w1, hr⟩).keep w1 (hs.keep w hS x w1 hr) a w' h
theorem ax_first {S : Nat → Prop} {size n m c : Nat} {ba : Option Addr} (h : n = 0 ∨ ∃ ad, ba = some ad ∧ S ad.block ∧ R ad.block) : Ax P S R Wr (Builtin.firstCells size n (.slice ba m c)) := by
  have one : ∀ (a : Addr), S a.block → R a.block → ∀ (k i : Nat) (acc : Array Value), Ax P S R Wr (loadCellsFrom a i k acc) := by
    intro a h1 h2 k
    induction k with
    | zero => intro i acc; exact (Still.pure _).ax
    | succ k ih =>
      intro i acc
      unfold loadCellsFrom
      refine .bind ⟨fun w hS => at_load (by rw [add_blk]; exact hS _ h1) (by rw [add_blk]; exact h2), fun w hS v w' hv b hb => ?_⟩ fun v _ => ih _ _
      rw [run_load_world hv]; exact hS b hb
  unfold Builtin.firstCells loadCells
  cases ba with
  | none => exact (Still.pure _).ax
  | some a =>
    rcases h with rfl | ⟨ad, e, h1, h2⟩
    · rw [Nat.zero_mul]; exact (Still.pure _).ax
    · cases e; exact one _ h1 h2 _ _ _
theorem ax_store {S : Nat → Prop} {a : Addr} (h1 : S a.block) (h2 : Wr a.block) : ∀ (vs : List Value) (i : Nat), Ax P S R Wr (storeCells a vs i)
  | [], i => (Still.pure _).ax
  | v :: vs, i => by
    unfold storeCells
    refine .bind ⟨fun w hS => at_store (by rw [add_blk]; exact hS _ h1) (by rw [add_blk]; exact h2), fun w hS _ w' hv b hb => run_store_cells hv (hS b hb) (by rw [add_blk]; exact hS _ h1)⟩ fun _ _ => ax_store h1 h2 vs _
theorem still_mayShare (size l n : Nat) (base : Option Addr) (x : Value) : Still P (Builtin.mayShare size l n base x) := by
  unfold Builtin.mayShare Builtin.holdsCells
  (repeat (first
    | exact Still.pure _
    | exact Still.halt _
    | exact Still.typeInfo _
    | exact Still.underlying _
    | exact Still.sizeOf _
    | exact Still.isAgg _
    | exact Still.zeroValue _
    | exact Still.choose _
    | exact Still.program
    | exact Still.newObj _
    | exact Still.shape _
    | exact Still.frozen _
    | exact Still.askRoom _
    | exact Still.runtimePanic _
    | exact Still.boundsPanic _ _ _ _
    | exact Still.asIntOf _
    | exact Still.asInt _
    | exact Still.part _ _ _
    | apply Still.map
    | apply Still.bind
    | intro _
    | split
    | (dsimp only)))
end

end Go.Proofs.YtpdojmebloekgaaDoor.Nice.Co
