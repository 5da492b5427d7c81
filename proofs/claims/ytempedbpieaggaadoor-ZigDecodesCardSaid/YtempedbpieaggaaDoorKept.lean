/- Blocks that are known whole, and what a step keeps: all that lies below a block number, and every block whose element type is not among those that the step writes. No program is in sight. -/
import Derived.Test.YtempedbpieaggaaDoorOwn
import Derived.Laws.Rows
namespace Go.Proofs.YtempedbpieaggaaDoor
open Go Go.RowKit
set_option linter.unusedVariables false

def Blk (w : World) (g : Nat) (t : TypeId) (cs : Array Value) : Prop := w.heap[g]? = some (.cells cs t (0, 0))
section
variable {w w' : World} {g : Nat} {t : TypeId} {cs : Array Value}
theorem Blk.lt (h : Blk w g t cs) : g < w.heap.size := by
  rcases Nat.lt_or_ge g w.heap.size with hlt | hge
  · exact hlt
  · unfold Blk at h; rw [Array.getElem?_eq_none hge] at h; cases h
theorem Blk.cell (h : Blk w g t cs) (i : Nat) : w.cell? ⟨g, i, none⟩ = cs[i]? := cell_of_row w g i cs t (0, 0) h
theorem Blk.two0 {a b : Value} (h : Blk w g t #[a, b]) : w.cell? ⟨g, 0, none⟩ = some a := h.cell 0
theorem Blk.two1 {a b : Value} (h : Blk w g t #[a, b]) : w.cell? ⟨g, 1, none⟩ = some b := h.cell 1
theorem Blk.frozen (h : Blk w g t cs) (i : Nat) : w.frozen? ⟨g, i, none⟩ = false := by
  unfold Blk at h
  simp [World.frozen?, h]
theorem Blk.new (w : World) (t : TypeId) (cs : Array Value) : Blk (w.alloc (.cells cs t)) w.heap.size t cs := heap_alloc_new w _
theorem Blk.drewN (h : Blk w g t cs) (n : Nat) : Blk (w.drewN n) g t cs := h
theorem Blk.drew (h : Blk w g t cs) : Blk w.drew g t cs := h
theorem Blk.alloc (h : Blk w g t cs) (o : Obj) : Blk (w.alloc o) g t cs := (Below.heap_alloc w o g h.lt).trans h
theorem Blk.set_ (h : Blk w g t cs) (i : Nat) (u : Value) : Blk (w.setCell ⟨g, i, none⟩ u) g t (cs.setIfInBounds i u) := by
  unfold Blk at h ⊢
  simp [World.setCell, Array.getElem?_modify, h]
theorem Blk.far (h : Blk w g t cs) {p : Addr} (hp : g ≠ p.block) (u : Value) : Blk (w.setCell p u) g t cs := (Below.heap_setCell w p u g hp).trans h
theorem Blk.below {B : Nat} (h : Blk w g t cs) (hb : Below B w w') (hg : g < B) : Blk w' g t cs := (hb.block g hg).trans h
theorem Blk.grown {row : Option Nat} (h : Blk w g t cs) (hb : w.grownBy w' row) (hg : some g ≠ row) : Blk w' g t cs := (hb.block g h.lt hg).trans h
theorem Blk.ne_ {g' : Nat} {t' : TypeId} {cs' : Array Value} (h : Blk w g t cs) (h' : Blk w g' t' cs') (hne : t ≠ t') : g ≠ g' := by
  rintro rfl
  unfold Blk at h h'
  rw [h] at h'
  injection h' with h'
  injection h' with _ ht
  exact hne ht
theorem own_blk_ne {base : Nat} {e : TypeId} {size n : Nat} {v : Value} {xs : List Value} (h : w.ownsRow base e size v n xs) (hg : Blk w g t cs) (hne : e ≠ t) : v.ownBlock ≠ some g := by
  rcases h.2 with ⟨rfl, _⟩ | ⟨g', cap, cur, rfl, _, hh, _⟩
  · simp [Value.ownBlock]
  · intro he
    have : g' = g := by simpa [Value.ownBlock] using he
    subst this
    exact Blk.ne_ (t := e) hh hg hne rfl
end

/-- From w to w' no block below B has turned, and none whose element type is not in T. -/
structure Kept (B : Nat) (T : List TypeId) (w w' : World) : Prop where
  os : w'.os = w.os
  tape : w'.tape = w.tape
  output : w'.output = w.output
  size : w.heap.size ≤ w'.heap.size
  block : ∀ k, k < w.heap.size → (k < B ∨ ∀ cs t fr, w.heap[k]? = some (.cells cs t fr) → t ∉ T) → w'.heap[k]? = w.heap[k]?
theorem Kept.refl (B : Nat) (T : List TypeId) (w : World) : Kept B T w w := ⟨rfl, rfl, rfl, Nat.le_refl _, fun _ _ _ => rfl⟩
theorem Kept.trans {B : Nat} {T : List TypeId} {a b c : World} (h : Kept B T a b) (k : Kept B T b c) : Kept B T a c :=
  ⟨k.os.trans h.os, k.tape.trans h.tape, k.output.trans h.output, Nat.le_trans h.size k.size, fun i hi ht => by
    have h1 := h.block i hi ht
    rw [k.block i (Nat.lt_of_lt_of_le hi h.size) (by rw [h1]; exact ht), h1]⟩
theorem Kept.mono {B B' : Nat} {T T' : List TypeId} {w w' : World} (h : Kept B T w w') (hB : B' ≤ B) (hT : ∀ t ∈ T, t ∈ T') : Kept B' T' w w' :=
  ⟨h.os, h.tape, h.output, h.size, fun k hk ht => h.block k hk (ht.imp (fun h => by omega) (fun h cs t fr he hm => h cs t fr he (hT t hm)))⟩
theorem Kept.of_below {B : Nat} {T : List TypeId} {w w' : World} (h : Below w.heap.size w w') : Kept B T w w' := ⟨h.os, h.tape, h.output, h.size, fun k hk _ => h.block k hk⟩
theorem Kept.below {B : Nat} {T : List TypeId} {w w' : World} (h : Kept B T w w') (hB : B ≤ w.heap.size) : Below B w w' := ⟨h.os, h.tape, h.output, h.size, fun k hk => h.block k (by omega) (.inl hk)⟩
theorem Kept.alloc {B : Nat} {T : List TypeId} {w w' : World} (h : Kept B T w w') (o : Obj) : Kept B T w (w'.alloc o) :=
  h.trans ⟨rfl, rfl, rfl, by simp, fun k hk _ => Below.heap_alloc _ _ _ hk⟩
theorem Kept.drewN {B : Nat} {T : List TypeId} {w w' : World} (h : Kept B T w w') (n : Nat) : Kept B T w (w'.drewN n) := ⟨h.os, h.tape, h.output, h.size, h.block⟩
theorem Kept.drew {B : Nat} {T : List TypeId} {w w' : World} (h : Kept B T w w') : Kept B T w w'.drew := ⟨h.os, h.tape, h.output, h.size, h.block⟩
theorem Kept.setCell {B : Nat} {T : List TypeId} {w w' : World} (h : Kept B T w w') {p : Addr} {t : TypeId} {cs : Array Value} {fr : Nat × Nat} (hp : w'.heap[p.block]? = some (.cells cs t fr)) (hB : B ≤ p.block) (ht : t ∈ T) (u : Value) : Kept B T w (w'.setCell p u) :=
  h.trans ⟨rfl, rfl, rfl, by simp [World.setCell], fun k hk hk' => Below.heap_setCell _ _ _ _ (by
    rintro rfl
    rcases hk' with hk' | hk'
    · omega
    · exact hk' cs t fr hp ht)⟩
theorem Kept.grown {B : Nat} {T : List TypeId} {a w w' : World} {base : Nat} {e : TypeId} {size n : Nat} {v : Value} {xs : List Value} (h : Kept B T a w) (hown : w.ownsRow base e size v n xs) (he : e ∈ T) (hb : B ≤ base) (hg : w.grownBy w' v.ownBlock) : Kept B T a w' :=
  h.trans ⟨hg.os, hg.tape, hg.output, hg.size, fun k hk hk' => hg.block k hk (by
    intro e1
    rcases hown.2 with ⟨rfl, _⟩ | ⟨g, cap, cur, rfl, hbg, hh, _⟩
    · simp [Value.ownBlock] at e1
    · have : k = g := by simpa [Value.ownBlock] using e1
      subst this
      rcases hk' with hk' | hk'
      · omega
      · exact hk' _ _ _ hh he)⟩
theorem Kept.blk {B : Nat} {T : List TypeId} {w w' : World} {g : Nat} {t : TypeId} {cs : Array Value} (h : Kept B T w w') (hg : Blk w g t cs) (ht : t ∉ T) : Blk w' g t cs :=
  (h.block g hg.lt (.inr fun cs' t' fr e => by
    unfold Blk at hg; rw [hg] at e; injection e with e; injection e with _ e2; rw [← e2]; exact ht)).trans hg
theorem Kept.row {B : Nat} {T : List TypeId} {w w' : World} {base : Nat} {e : TypeId} {size n : Nat} {v : Value} {xs : List Value} (h : Kept B T w w') (hown : w.ownsRow base e size v n xs) (he : e ∉ T) : w'.ownsRow base e size v n xs := by
  refine ⟨hown.1, ?_⟩
  rcases hown.2 with h1 | ⟨g, cap, cur, h1, h2, h3, h4⟩
  · exact .inl h1
  · exact .inr ⟨g, cap, cur, h1, h2, h.blk (t := e) h3 he, h4⟩
theorem Kept.ownI {B : Nat} {T : List TypeId} {w w' : World} {k : IntKind} {base : Nat} {e : TypeId} {v : Value} {l : List Int} (h : Kept B T w w') (hown : OwnI k e w base v l) (he : e ∉ T) : OwnI k e w' base v l := ⟨h.row hown.1 he, hown.2⟩
/-- The row of the call's own, with its place. -/
theorem OwnI.place {k : IntKind} {e : TypeId} {w : World} {base : Nat} {v : Value} {l : List Int} (h : OwnI k e w base v l) (h0 : 0 < l.length) :
    ∃ g cap, v = .slice (some ⟨g, 0, none⟩) l.length cap ∧ base ≤ g ∧ g < w.heap.size ∧ (∃ cur, Blk w g e cur) ∧ (∀ j, j < l.length → w.cell? ⟨g, j, none⟩ = some (.int k (l.getD j 0))) ∧ (∀ j, w.frozen? ⟨g, j, none⟩ = false) ∧ l.length ≤ cap ∧ cap ≤ maxLen := by
  obtain ⟨h1, hwf⟩ := h
  have h2 := h1
  rcases h1.2 with ⟨rfl, hn⟩ | ⟨g, cap, cur, rfl, hb, hg, hnc, hcm, hcs, ht⟩
  · omega
  · refine ⟨g, cap, rfl, hb, Blk.lt (t := e) hg, ⟨cur, hg⟩, fun j hj => ?_, fun j => h2.frozenAt j, hnc, hcm⟩
    rw [h2.cellAt j (by omega), List.getElem?_map, List.getElem?_eq_getElem hj]
    simp [List.getD, List.getElem?_eq_getElem hj]
theorem OwnI.stored {k : IntKind} {e : TypeId} {w : World} {base g cap : Nat} {l : List Int} (h : OwnI k e w base (.slice (some ⟨g, 0, none⟩) l.length cap) l) (j : Nat) (u : Int) (hu : (Lit.int k u).wf = true) :
    OwnI k e (w.setCell ⟨g, j, none⟩ (.int k u)) base (.slice (some ⟨g, 0, none⟩) l.length cap) (l.set j u) := by
  refine ⟨?_, fun x hx => ?_⟩
  · have := (h.1.stored j (.int k u)).1
    rw [List.length_set, List.map_set]
    exact this
  · rcases List.mem_or_eq_of_mem_set hx with h1 | h1
    · exact h.2 x h1
    · rw [h1]; exact hu
theorem OwnI.far {k : IntKind} {e t : TypeId} {w : World} {base g : Nat} {v : Value} {l : List Int} {cs : Array Value} (h : OwnI k e w base v l) (hg : Blk w g t cs) (hne : e ≠ t) (i : Nat) (u : Value) : OwnI k e (w.setCell ⟨g, i, none⟩ u) base v l :=
  ((Kept.refl 0 [t] w).setCell (p := ⟨g, i, none⟩) hg (Nat.zero_le _) (by simp) u).ownI h (by simpa using hne)
end Go.Proofs.YtempedbpieaggaaDoor
