/- Rows of the call's own: how they are kept, read and appended to. No program is in sight. -/
import Derived.Test.YtempedbpieaggaaDoorRow
import Derived.Laws.OwnMore
import Derived.Maps.AppendAt
import Derived.OwnWalk
import Derived.WalkSmall
import Derived.Deep.Draws
namespace Go.Proofs.YtempedbpieaggaaDoor
open Go Go.RowKit
set_option linter.unusedVariables false

theorem below_drewN {B : Nat} {a w : World} (h : Below B a w) (n : Nat) : Below B a (w.drewN n) := ⟨h.os, h.tape, h.output, h.size, h.block⟩
/-- From the world w to w' nothing but v's own row and new blocks has turned; v' lies in v's row or in a new block. -/
def Moved (w w' : World) (v v' : Value) : Prop := w.grownBy w' v.ownBlock ∧ (v'.ownBlock = v.ownBlock ∨ ∃ g, v'.ownBlock = some g ∧ w.heap.size ≤ g)
theorem grown_step {a b c : World} {row row' : Option Nat} (h : a.grownBy b row) (k : b.grownBy c row') (hr : row' = row ∨ row' = none ∨ ∃ g, row' = some g ∧ a.heap.size ≤ g) : a.grownBy c row :=
  ⟨k.os.trans h.os, k.tape.trans h.tape, k.output.trans h.output, Nat.le_trans h.size k.size, fun i hi hne => (k.block i (Nat.lt_of_lt_of_le hi h.size) (by
    rcases hr with rfl | rfl | ⟨g, rfl, hg⟩
    · exact hne
    · simp
    · intro e; injection e with e; omega)).trans (h.block i hi hne)⟩
theorem grown_of_below {a w : World} (h : Below a.heap.size a w) (row : Option Nat) : a.grownBy w row := ⟨h.os, h.tape, h.output, h.size, fun i hi _ => h.block i hi⟩
theorem below_of_grown {a w : World} (h : a.grownBy w none) : Below a.heap.size a w := ⟨h.os, h.tape, h.output, h.size, fun i hi => h.block i hi (by simp)⟩
theorem Moved.refl (w : World) (v : Value) : Moved w w v v := ⟨World.grownBy.refl w _, .inl rfl⟩
theorem Moved.drewN {w w' : World} {v v' : Value} (h : Moved w w' v v') (n : Nat) : Moved w (w'.drewN n) v v' := ⟨⟨h.1.os, h.1.tape, h.1.output, h.1.size, h.1.block⟩, h.2⟩
theorem Moved.trans {a b c : World} {u v x : Value} (h : Moved a b u v) (k : Moved b c v x) : Moved a c u x := by
  refine ⟨grown_step h.1 k.1 (h.2.imp id .inr), ?_⟩
  rcases k.2 with k2 | ⟨g, k2, hg⟩
  · rw [k2]; exact h.2
  · exact .inr ⟨g, k2, Nat.le_trans h.1.size hg⟩
/-- New blocks, and whatever is written from a's end on, ahead of the step. -/
theorem Moved.after {a b c : World} {u v : Value} (h : Below a.heap.size a b) (k : Moved b c u v) (hu : ∀ g, u.ownBlock = some g → g < b.heap.size) : Moved a c u v := by
  refine ⟨⟨k.1.os.trans h.os, k.1.tape.trans h.tape, k.1.output.trans h.output, Nat.le_trans h.size k.1.size, fun i hi hne => (k.1.block i (Nat.lt_of_lt_of_le hi h.size) hne).trans (h.block i hi)⟩, ?_⟩
  rcases k.2 with k2 | ⟨g, k2, hg⟩
  · exact .inl k2
  · exact .inr ⟨g, k2, Nat.le_trans h.size hg⟩
theorem Moved.then_ {a b c : World} {u v : Value} (h : Moved a b u v) (k : Below b.heap.size b c) : Moved a c u v :=
  ⟨grown_step h.1 (grown_of_below k none) (.inr (.inl rfl)), h.2⟩
theorem Moved.below {B : Nat} {w w' : World} {v v' : Value} (h : Moved w w' v v') (hB : B ≤ w.heap.size) (hv : ∀ g, v.ownBlock = some g → B ≤ g) : Below B w w' :=
  (Below.refl B w).grown h.1 hB hv
theorem Moved.of_append {w w1 : World} {o : Obj} {v v' : Value} (hg : (w.alloc o).grownBy w1 v.ownBlock) (hloc : v'.ownBlock = v.ownBlock ∨ v'.ownBlock = some (w.alloc o).heap.size) : Moved w w1 v v' := by
  refine ⟨⟨hg.os, hg.tape, hg.output, Nat.le_trans (by simp) hg.size, fun i hi hne => (hg.block i (by simp; omega) hne).trans (Below.heap_alloc w o i hi)⟩, ?_⟩
  exact hloc.imp id (fun h => ⟨_, h, by simp⟩)

/-- A row of integers of the call's own, from block 'base' on. -/
def OwnI (k : IntKind) (e : TypeId) (w : World) (base : Nat) (v : Value) (l : List Int) : Prop :=
  w.ownsRow base e 1 v l.length (l.map (Value.int k)) ∧ ∀ n ∈ l, (Lit.int k n).wf = true
theorem OwnI.nil (k : IntKind) (e : TypeId) (w : World) (base : Nat) : OwnI k e w base (.slice none 0 0) [] := ⟨World.ownsRow_nil _ _ _ _, by simp⟩
/-- A slice value that reads as a list. -/
def Slc (k : IntKind) (w : World) (B : Nat) (v : Value) (l : List Int) : Prop := ∃ a cap, v = .slice a l.length cap ∧ Reads k w B a l
theorem OwnI.slc {k : IntKind} {e : TypeId} {w : World} {base : Nat} {v : Value} {l : List Int} (h : OwnI k e w base v l) : Slc k w w.heap.size v l := by
  obtain ⟨⟨hl, h1⟩, hwf⟩ := h
  rcases h1 with ⟨rfl, hn⟩ | ⟨g, cap, cur, rfl, hb, hg, hnc, hcm, hcs, ht⟩
  · have : l = [] := List.eq_nil_of_length_eq_zero hn
    subst this
    exact ⟨none, 0, rfl, by simp, by simp, by simp⟩
  · refine ⟨_, cap, rfl, Nat.le_trans hnc hcm, hwf, fun hne => ⟨g, 0, rfl, ?_, fun i hi => ?_⟩⟩
    · rcases Nat.lt_or_ge g w.heap.size with hlt | hge
      · exact hlt
      · rw [Array.getElem?_eq_none hge] at hg; cases hg
    · rw [Nat.zero_add, cell_of_row w g i cur e (0, 0) hg]
      have h2 : (cur.toList.take (l.length * 1))[i]? = (l.map (Value.int k))[i]? := by rw [ht]
      rw [List.getElem?_take, if_pos (by omega), List.getElem?_map, List.getElem?_eq_getElem hi] at h2
      simp only [Option.map_some] at h2
      rw [Array.getElem?_toList] at h2
      rw [h2]
      simp [List.getD, List.getElem?_eq_getElem hi]
theorem OwnI.lt {k : IntKind} {e : TypeId} {w : World} {base : Nat} {v : Value} {l : List Int} (h : OwnI k e w base v l) : ∀ g, v.ownBlock = some g → base ≤ g ∧ g < w.heap.size := h.1.lt
theorem OwnI.below {k : IntKind} {e : TypeId} {w w' : World} {base : Nat} {v : Value} {l : List Int} (h : OwnI k e w base v l) (hb : Below w.heap.size w w') : OwnI k e w' base v l :=
  ⟨h.1.kept (row := none) ⟨hb.os, hb.tape, hb.output, hb.size, fun i hi _ => hb.block i hi⟩ (by
    cases hv : v.ownBlock with
    | none => exact .inl rfl
    | some g => exact .inr (by simp)), h.2⟩
theorem OwnI.len {k : IntKind} {e : TypeId} {w : World} {base : Nat} {v : Value} {l : List Int} (h : OwnI k e w base v l) : l.length ≤ maxLen := by
  obtain ⟨a, cap, _, hr⟩ := h.slc
  exact hr.1
theorem OwnI.of_append {k : IntKind} {e : TypeId} {w : World} {base : Nat} {v : Value} {l m : List Int} {n : Nat} (h : w.ownsRow base e 1 v n (l.map (Value.int k) ++ m.map (Value.int k))) (hn : n = l.length + m.length)
    (hl : ∀ n ∈ l, (Lit.int k n).wf = true) (hm : ∀ n ∈ m, (Lit.int k n).wf = true) : OwnI k e w base v (l ++ m) := by
  subst hn
  refine ⟨by rw [List.length_append, List.map_append]; exact h, fun x hx => ?_⟩
  rcases List.mem_append.1 hx with hx | hx
  · exact hl x hx
  · exact hm x hx
theorem OwnI.base_mono {k : IntKind} {e : TypeId} {w : World} {base base' : Nat} {v : Value} {l : List Int} (h : OwnI k e w base v l) (hb : base' ≤ base) : OwnI k e w base' v l := by
  refine ⟨⟨h.1.1, ?_⟩, h.2⟩
  rcases h.1.2 with h1 | ⟨g, cap, cur, h1, h2, h3⟩
  · exact .inl h1
  · exact .inr ⟨g, cap, cur, h1, Nat.le_trans hb h2, h3⟩
theorem wf_u8 {n : Int} (h1 : 0 ≤ n) (h2 : n ≤ 255) : (Lit.int .u8 n).wf = true := by
  simp [Lit.wf, IntKind.min, IntKind.max, IntKind.signed, IntKind.bits]; omega
theorem wf_i64 {n : Int} (h1 : -9223372036854775808 ≤ n) (h2 : n ≤ 9223372036854775807) : (Lit.int .i64 n).wf = true := by
  simp [Lit.wf, IntKind.min, IntKind.max, IntKind.signed, IntKind.bits]; omega
end Go.Proofs.YtempedbpieaggaaDoor
