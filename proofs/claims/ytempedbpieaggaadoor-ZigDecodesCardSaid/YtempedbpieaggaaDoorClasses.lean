/- The table zig.classes as it lies in memory, and the contract of zig.fit. -/
import Derived.Test.YtempedbpieaggaaDoorProg
import Derived.Test.YtempedbpieaggaaDoorKept
import Derived.Test.YtempedbpieaggaaDoorPackPlain
import Derived.WalkKit
import Derived.WalkLawsBesides
import Derived.LoopTactic
import Derived.Laws.Rows
import Derived.Outline
import Derived.Lib.Hide
namespace Go.Proofs.YtempedbpieaggaaDoor
open Go Go.RowKit
set_option linter.unusedVariables false

/-- The table lies in its block. -/
def ClassesAt (w : World) : Prop := ∃ (t : TypeId) (fr : Nat × Nat), w.heap[(0 : Nat)]? = some (.cells #[.int .i64 0, .int .i64 1, .int .i64 0, .int .i64 2, .int .i64 2, .int .i64 6, .int .i64 6, .int .i64 3, .int .i64 12, .int .i64 14, .int .i64 4, .int .i64 24, .int .i64 15, .int .i64 4, .int .i64 59] t fr)
theorem ClassesAt.lt {w : World} (h : ClassesAt w) : 0 < w.heap.size := by
  obtain ⟨t, fr, h⟩ := h
  rcases Nat.lt_or_ge 0 w.heap.size with hlt | hge
  · exact hlt
  · rw [Array.getElem?_eq_none hge] at h; cases h
theorem ClassesAt.below {w w' : World} (h : ClassesAt w) (hb : Below w.heap.size w w') : ClassesAt w' := by
  have hlt := h.lt
  obtain ⟨t, fr, h⟩ := h
  exact ⟨t, fr, (hb.block _ hlt).trans h⟩
theorem ClassesAt.belowB {w w' : World} {B : Nat} (h : ClassesAt w) (hb : Below B w w') (hB : 0 < B) : ClassesAt w' := by
  obtain ⟨t, fr, h⟩ := h
  exact ⟨t, fr, (hb.block _ hB).trans h⟩
theorem class_0 (w : World) : (Instr.index 54 (.agg #[.int .i64 0, .int .i64 1, .int .i64 0, .int .i64 2, .int .i64 2, .int .i64 6, .int .i64 6, .int .i64 3, .int .i64 12, .int .i64 14, .int .i64 4, .int .i64 24, .int .i64 15, .int .i64 4, .int .i64 59]) (.int .i64 0)).run Tryd.prog w = .ok (.agg #[.int .i64 0, .int .i64 1, .int .i64 0]) w := by kernel_rfl
theorem class_1 (w : World) : (Instr.index 54 (.agg #[.int .i64 0, .int .i64 1, .int .i64 0, .int .i64 2, .int .i64 2, .int .i64 6, .int .i64 6, .int .i64 3, .int .i64 12, .int .i64 14, .int .i64 4, .int .i64 24, .int .i64 15, .int .i64 4, .int .i64 59]) (.int .i64 1)).run Tryd.prog w = .ok (.agg #[.int .i64 2, .int .i64 2, .int .i64 6]) w := by kernel_rfl
theorem class_2 (w : World) : (Instr.index 54 (.agg #[.int .i64 0, .int .i64 1, .int .i64 0, .int .i64 2, .int .i64 2, .int .i64 6, .int .i64 6, .int .i64 3, .int .i64 12, .int .i64 14, .int .i64 4, .int .i64 24, .int .i64 15, .int .i64 4, .int .i64 59]) (.int .i64 2)).run Tryd.prog w = .ok (.agg #[.int .i64 6, .int .i64 3, .int .i64 12]) w := by kernel_rfl
theorem class_3 (w : World) : (Instr.index 54 (.agg #[.int .i64 0, .int .i64 1, .int .i64 0, .int .i64 2, .int .i64 2, .int .i64 6, .int .i64 6, .int .i64 3, .int .i64 12, .int .i64 14, .int .i64 4, .int .i64 24, .int .i64 15, .int .i64 4, .int .i64 59]) (.int .i64 3)).run Tryd.prog w = .ok (.agg #[.int .i64 14, .int .i64 4, .int .i64 24]) w := by kernel_rfl
theorem class_4 (w : World) : (Instr.index 54 (.agg #[.int .i64 0, .int .i64 1, .int .i64 0, .int .i64 2, .int .i64 2, .int .i64 6, .int .i64 6, .int .i64 3, .int .i64 12, .int .i64 14, .int .i64 4, .int .i64 24, .int .i64 15, .int .i64 4, .int .i64 59]) (.int .i64 4)).run Tryd.prog w = .ok (.agg #[.int .i64 15, .int .i64 4, .int .i64 59]) w := by kernel_rfl
set_option maxHeartbeats 1000000 in
theorem fit_0 (x : Int) (h0 : 0 ≤ x) (h1 : x < 1) (w : World) (hcl : ClassesAt w) :
    Calls Tryd.prog 15 #[.int .i64 x] w fun e w' => e = .returned (.agg #[.int .i64 0, .int .i64 1, .int .i64 0]) ∧ Below w.heap.size w w' := by
  have hlt := hcl.lt
  obtain ⟨tt, fr, hg⟩ := hcl
  have i0 := class_0
  have i1 := class_1
  have i2 := class_2
  have i3 := class_3
  have i4 := class_4
  have t0 : (x == 0) = true := by simp; omega
  have hg1 : (w.alloc (.cells #[.int .i64 0, .int .i64 0, .int .i64 0] 37)).heap[(0 : Nat)]? = some (.cells #[.int .i64 0, .int .i64 1, .int .i64 0, .int .i64 2, .int .i64 2, .int .i64 6, .int .i64 6, .int .i64 3, .int .i64 12, .int .i64 14, .int .i64 4, .int .i64 24, .int .i64 15, .int .i64 4, .int .i64 59] tt fr) := (Below.heap_alloc w _ _ hlt).trans hg
  go_enter Tryd.func15, Tryd.ntmps15
  go_wp2_with (refine wpList_load_row rfl 54 _ rfl 0 rfl tt _ fr _ hg1 Tryd.underlying54 rfl (by kernel_rfl) ?_)
  go_loopw [6] (fun i wr => ∃ k : Nat, k ≤ 0 ∧ i = .int .i64 k ∧ Below w.heap.size w wr ∧ Blk wr w.heap.size 37 #[.int .i64 0, .int .i64 0, .int .i64 0]) (fun i _ => 1 - (intOf i).toNat)
  case atStart => exact ⟨0, by omega, rfl, (Below.refl _ _).alloc (Nat.le_refl _) _, Blk.new _ _ _⟩
  case round =>
    obtain ⟨k, hk, rfl, hbel, hblk⟩ := hrel
    have hne : w.heap.size ≠ wr.heap.size := by have := hblk.lt; omega
    have hsz := hbel.size
    have hlt2 := hblk.lt
    have hr0 : wr.cell? ⟨w.heap.size, 0, none⟩ = some (.int .i64 0) := hblk.cell 0
    have hr1 : wr.cell? ⟨w.heap.size, 1, none⟩ = some (.int .i64 0) := hblk.cell 1
    have hr2 : wr.cell? ⟨w.heap.size, 2, none⟩ = some (.int .i64 0) := hblk.cell 2
    have hf0 := hblk.frozen 0
    have hf1 := hblk.frozen 1
    have hf2 := hblk.frozen 2
    have HB := Lib.hid hbel
    have HK := Lib.hid hblk
    clear hbel hblk
    have hcase : k = 0 := by omega
    rcases hcase with rfl
    · go_wp2_with fail
      have hfin := (((HK.out.set_ 0 (.int .i64 0)).set_ 1 (.int .i64 1)).set_ 2 (.int .i64 0)).alloc (.cells #[.int .i64 0, .int .i64 1, .int .i64 0] 37)
      refine bodyPost_ret (v := .agg #[.int .i64 0, .int .i64 1, .int .i64 0]) (results_cell_row rfl _ _ w.heap.size 37 _ (0, 0) _ rfl hfin Tryd.underlying37 rfl (by kernel_rfl)) rfl ⟨rfl, ?_⟩
      exact (((HB.out.setCell (p := ⟨w.heap.size, 0, none⟩) (Nat.le_refl _) _).setCell (p := ⟨w.heap.size, 1, none⟩) (Nat.le_refl _) _).setCell (p := ⟨w.heap.size, 2, none⟩) (Nat.le_refl _) _).alloc (by simp [World.setCell]; omega) _
set_option maxHeartbeats 1000000 in
theorem fit_1 (x : Int) (h0 : 1 ≤ x) (h1 : x < 64) (w : World) (hcl : ClassesAt w) :
    Calls Tryd.prog 15 #[.int .i64 x] w fun e w' => e = .returned (.agg #[.int .i64 2, .int .i64 2, .int .i64 6]) ∧ Below w.heap.size w w' := by
  have hlt := hcl.lt
  obtain ⟨tt, fr, hg⟩ := hcl
  have i0 := class_0
  have i1 := class_1
  have i2 := class_2
  have i3 := class_3
  have i4 := class_4
  have t0 : (x == 0) = false := by simp; omega
  have t1 : (x / 64 == 0) = true := by simp; omega
  have hg1 : (w.alloc (.cells #[.int .i64 0, .int .i64 0, .int .i64 0] 37)).heap[(0 : Nat)]? = some (.cells #[.int .i64 0, .int .i64 1, .int .i64 0, .int .i64 2, .int .i64 2, .int .i64 6, .int .i64 6, .int .i64 3, .int .i64 12, .int .i64 14, .int .i64 4, .int .i64 24, .int .i64 15, .int .i64 4, .int .i64 59] tt fr) := (Below.heap_alloc w _ _ hlt).trans hg
  go_enter Tryd.func15, Tryd.ntmps15
  go_wp2_with (refine wpList_load_row rfl 54 _ rfl 0 rfl tt _ fr _ hg1 Tryd.underlying54 rfl (by kernel_rfl) ?_)
  go_loopw [6] (fun i wr => ∃ k : Nat, k ≤ 1 ∧ i = .int .i64 k ∧ Below w.heap.size w wr ∧ Blk wr w.heap.size 37 #[.int .i64 0, .int .i64 0, .int .i64 0]) (fun i _ => 2 - (intOf i).toNat)
  case atStart => exact ⟨0, by omega, rfl, (Below.refl _ _).alloc (Nat.le_refl _) _, Blk.new _ _ _⟩
  case round =>
    obtain ⟨k, hk, rfl, hbel, hblk⟩ := hrel
    have hne : w.heap.size ≠ wr.heap.size := by have := hblk.lt; omega
    have hsz := hbel.size
    have hlt2 := hblk.lt
    have hr0 : wr.cell? ⟨w.heap.size, 0, none⟩ = some (.int .i64 0) := hblk.cell 0
    have hr1 : wr.cell? ⟨w.heap.size, 1, none⟩ = some (.int .i64 0) := hblk.cell 1
    have hr2 : wr.cell? ⟨w.heap.size, 2, none⟩ = some (.int .i64 0) := hblk.cell 2
    have hf0 := hblk.frozen 0
    have hf1 := hblk.frozen 1
    have hf2 := hblk.frozen 2
    have HB := Lib.hid hbel
    have HK := Lib.hid hblk
    clear hbel hblk
    have hcase : k = 0 ∨ k = 1 := by omega
    rcases hcase with rfl | rfl
    · go_wp2_with fail
      exact ⟨⟨1, by omega, rfl, HB.out.alloc hsz _, HK.out.alloc _⟩, by simp [intOf]⟩
    · go_wp2_with fail
      have hfin := (((HK.out.set_ 0 (.int .i64 2)).set_ 1 (.int .i64 2)).set_ 2 (.int .i64 6)).alloc (.cells #[.int .i64 2, .int .i64 2, .int .i64 6] 37)
      refine bodyPost_ret (v := .agg #[.int .i64 2, .int .i64 2, .int .i64 6]) (results_cell_row rfl _ _ w.heap.size 37 _ (0, 0) _ rfl hfin Tryd.underlying37 rfl (by kernel_rfl)) rfl ⟨rfl, ?_⟩
      exact (((HB.out.setCell (p := ⟨w.heap.size, 0, none⟩) (Nat.le_refl _) _).setCell (p := ⟨w.heap.size, 1, none⟩) (Nat.le_refl _) _).setCell (p := ⟨w.heap.size, 2, none⟩) (Nat.le_refl _) _).alloc (by simp [World.setCell]; omega) _
set_option maxHeartbeats 1000000 in
theorem fit_2 (x : Int) (h0 : 64 ≤ x) (h1 : x < 4096) (w : World) (hcl : ClassesAt w) :
    Calls Tryd.prog 15 #[.int .i64 x] w fun e w' => e = .returned (.agg #[.int .i64 6, .int .i64 3, .int .i64 12]) ∧ Below w.heap.size w w' := by
  have hlt := hcl.lt
  obtain ⟨tt, fr, hg⟩ := hcl
  have i0 := class_0
  have i1 := class_1
  have i2 := class_2
  have i3 := class_3
  have i4 := class_4
  have t0 : (x == 0) = false := by simp; omega
  have t1 : (x / 64 == 0) = false := by simp; omega
  have t2 : (x / 4096 == 0) = true := by simp; omega
  have hg1 : (w.alloc (.cells #[.int .i64 0, .int .i64 0, .int .i64 0] 37)).heap[(0 : Nat)]? = some (.cells #[.int .i64 0, .int .i64 1, .int .i64 0, .int .i64 2, .int .i64 2, .int .i64 6, .int .i64 6, .int .i64 3, .int .i64 12, .int .i64 14, .int .i64 4, .int .i64 24, .int .i64 15, .int .i64 4, .int .i64 59] tt fr) := (Below.heap_alloc w _ _ hlt).trans hg
  go_enter Tryd.func15, Tryd.ntmps15
  go_wp2_with (refine wpList_load_row rfl 54 _ rfl 0 rfl tt _ fr _ hg1 Tryd.underlying54 rfl (by kernel_rfl) ?_)
  go_loopw [6] (fun i wr => ∃ k : Nat, k ≤ 2 ∧ i = .int .i64 k ∧ Below w.heap.size w wr ∧ Blk wr w.heap.size 37 #[.int .i64 0, .int .i64 0, .int .i64 0]) (fun i _ => 3 - (intOf i).toNat)
  case atStart => exact ⟨0, by omega, rfl, (Below.refl _ _).alloc (Nat.le_refl _) _, Blk.new _ _ _⟩
  case round =>
    obtain ⟨k, hk, rfl, hbel, hblk⟩ := hrel
    have hne : w.heap.size ≠ wr.heap.size := by have := hblk.lt; omega
    have hsz := hbel.size
    have hlt2 := hblk.lt
    have hr0 : wr.cell? ⟨w.heap.size, 0, none⟩ = some (.int .i64 0) := hblk.cell 0
    have hr1 : wr.cell? ⟨w.heap.size, 1, none⟩ = some (.int .i64 0) := hblk.cell 1
    have hr2 : wr.cell? ⟨w.heap.size, 2, none⟩ = some (.int .i64 0) := hblk.cell 2
    have hf0 := hblk.frozen 0
    have hf1 := hblk.frozen 1
    have hf2 := hblk.frozen 2
    have HB := Lib.hid hbel
    have HK := Lib.hid hblk
    clear hbel hblk
    have hcase : k = 0 ∨ k = 1 ∨ k = 2 := by omega
    rcases hcase with rfl | rfl | rfl
    · go_wp2_with fail
      exact ⟨⟨1, by omega, rfl, HB.out.alloc hsz _, HK.out.alloc _⟩, by simp [intOf]⟩
    · go_wp2_with fail
      exact ⟨⟨2, by omega, rfl, HB.out.alloc hsz _, HK.out.alloc _⟩, by simp [intOf]⟩
    · go_wp2_with fail
      have hfin := (((HK.out.set_ 0 (.int .i64 6)).set_ 1 (.int .i64 3)).set_ 2 (.int .i64 12)).alloc (.cells #[.int .i64 6, .int .i64 3, .int .i64 12] 37)
      refine bodyPost_ret (v := .agg #[.int .i64 6, .int .i64 3, .int .i64 12]) (results_cell_row rfl _ _ w.heap.size 37 _ (0, 0) _ rfl hfin Tryd.underlying37 rfl (by kernel_rfl)) rfl ⟨rfl, ?_⟩
      exact (((HB.out.setCell (p := ⟨w.heap.size, 0, none⟩) (Nat.le_refl _) _).setCell (p := ⟨w.heap.size, 1, none⟩) (Nat.le_refl _) _).setCell (p := ⟨w.heap.size, 2, none⟩) (Nat.le_refl _) _).alloc (by simp [World.setCell]; omega) _
set_option maxHeartbeats 1000000 in
theorem fit_3 (x : Int) (h0 : 4096 ≤ x) (h1 : x < 16777216) (w : World) (hcl : ClassesAt w) :
    Calls Tryd.prog 15 #[.int .i64 x] w fun e w' => e = .returned (.agg #[.int .i64 14, .int .i64 4, .int .i64 24]) ∧ Below w.heap.size w w' := by
  have hlt := hcl.lt
  obtain ⟨tt, fr, hg⟩ := hcl
  have i0 := class_0
  have i1 := class_1
  have i2 := class_2
  have i3 := class_3
  have i4 := class_4
  have t0 : (x == 0) = false := by simp; omega
  have t1 : (x / 64 == 0) = false := by simp; omega
  have t2 : (x / 4096 == 0) = false := by simp; omega
  have t3 : (x / 16777216 == 0) = true := by simp; omega
  have hg1 : (w.alloc (.cells #[.int .i64 0, .int .i64 0, .int .i64 0] 37)).heap[(0 : Nat)]? = some (.cells #[.int .i64 0, .int .i64 1, .int .i64 0, .int .i64 2, .int .i64 2, .int .i64 6, .int .i64 6, .int .i64 3, .int .i64 12, .int .i64 14, .int .i64 4, .int .i64 24, .int .i64 15, .int .i64 4, .int .i64 59] tt fr) := (Below.heap_alloc w _ _ hlt).trans hg
  go_enter Tryd.func15, Tryd.ntmps15
  go_wp2_with (refine wpList_load_row rfl 54 _ rfl 0 rfl tt _ fr _ hg1 Tryd.underlying54 rfl (by kernel_rfl) ?_)
  go_loopw [6] (fun i wr => ∃ k : Nat, k ≤ 3 ∧ i = .int .i64 k ∧ Below w.heap.size w wr ∧ Blk wr w.heap.size 37 #[.int .i64 0, .int .i64 0, .int .i64 0]) (fun i _ => 4 - (intOf i).toNat)
  case atStart => exact ⟨0, by omega, rfl, (Below.refl _ _).alloc (Nat.le_refl _) _, Blk.new _ _ _⟩
  case round =>
    obtain ⟨k, hk, rfl, hbel, hblk⟩ := hrel
    have hne : w.heap.size ≠ wr.heap.size := by have := hblk.lt; omega
    have hsz := hbel.size
    have hlt2 := hblk.lt
    have hr0 : wr.cell? ⟨w.heap.size, 0, none⟩ = some (.int .i64 0) := hblk.cell 0
    have hr1 : wr.cell? ⟨w.heap.size, 1, none⟩ = some (.int .i64 0) := hblk.cell 1
    have hr2 : wr.cell? ⟨w.heap.size, 2, none⟩ = some (.int .i64 0) := hblk.cell 2
    have hf0 := hblk.frozen 0
    have hf1 := hblk.frozen 1
    have hf2 := hblk.frozen 2
    have HB := Lib.hid hbel
    have HK := Lib.hid hblk
    clear hbel hblk
    have hcase : k = 0 ∨ k = 1 ∨ k = 2 ∨ k = 3 := by omega
    rcases hcase with rfl | rfl | rfl | rfl
    · go_wp2_with fail
      exact ⟨⟨1, by omega, rfl, HB.out.alloc hsz _, HK.out.alloc _⟩, by simp [intOf]⟩
    · go_wp2_with fail
      exact ⟨⟨2, by omega, rfl, HB.out.alloc hsz _, HK.out.alloc _⟩, by simp [intOf]⟩
    · go_wp2_with fail
      exact ⟨⟨3, by omega, rfl, HB.out.alloc hsz _, HK.out.alloc _⟩, by simp [intOf]⟩
    · go_wp2_with fail
      have hfin := (((HK.out.set_ 0 (.int .i64 14)).set_ 1 (.int .i64 4)).set_ 2 (.int .i64 24)).alloc (.cells #[.int .i64 14, .int .i64 4, .int .i64 24] 37)
      refine bodyPost_ret (v := .agg #[.int .i64 14, .int .i64 4, .int .i64 24]) (results_cell_row rfl _ _ w.heap.size 37 _ (0, 0) _ rfl hfin Tryd.underlying37 rfl (by kernel_rfl)) rfl ⟨rfl, ?_⟩
      exact (((HB.out.setCell (p := ⟨w.heap.size, 0, none⟩) (Nat.le_refl _) _).setCell (p := ⟨w.heap.size, 1, none⟩) (Nat.le_refl _) _).setCell (p := ⟨w.heap.size, 2, none⟩) (Nat.le_refl _) _).alloc (by simp [World.setCell]; omega) _
set_option maxHeartbeats 1000000 in
theorem fit_4 (x : Int) (h0 : 16777216 ≤ x) (h1 : x < 576460752303423488) (w : World) (hcl : ClassesAt w) :
    Calls Tryd.prog 15 #[.int .i64 x] w fun e w' => e = .returned (.agg #[.int .i64 15, .int .i64 4, .int .i64 59]) ∧ Below w.heap.size w w' := by
  have hlt := hcl.lt
  obtain ⟨tt, fr, hg⟩ := hcl
  have i0 := class_0
  have i1 := class_1
  have i2 := class_2
  have i3 := class_3
  have i4 := class_4
  have t0 : (x == 0) = false := by simp; omega
  have t1 : (x / 64 == 0) = false := by simp; omega
  have t2 : (x / 4096 == 0) = false := by simp; omega
  have t3 : (x / 16777216 == 0) = false := by simp; omega
  have t4 : (x / 576460752303423488 == 0) = true := by simp; omega
  have hg1 : (w.alloc (.cells #[.int .i64 0, .int .i64 0, .int .i64 0] 37)).heap[(0 : Nat)]? = some (.cells #[.int .i64 0, .int .i64 1, .int .i64 0, .int .i64 2, .int .i64 2, .int .i64 6, .int .i64 6, .int .i64 3, .int .i64 12, .int .i64 14, .int .i64 4, .int .i64 24, .int .i64 15, .int .i64 4, .int .i64 59] tt fr) := (Below.heap_alloc w _ _ hlt).trans hg
  go_enter Tryd.func15, Tryd.ntmps15
  go_wp2_with (refine wpList_load_row rfl 54 _ rfl 0 rfl tt _ fr _ hg1 Tryd.underlying54 rfl (by kernel_rfl) ?_)
  go_loopw [6] (fun i wr => ∃ k : Nat, k ≤ 4 ∧ i = .int .i64 k ∧ Below w.heap.size w wr ∧ Blk wr w.heap.size 37 #[.int .i64 0, .int .i64 0, .int .i64 0]) (fun i _ => 5 - (intOf i).toNat)
  case atStart => exact ⟨0, by omega, rfl, (Below.refl _ _).alloc (Nat.le_refl _) _, Blk.new _ _ _⟩
  case round =>
    obtain ⟨k, hk, rfl, hbel, hblk⟩ := hrel
    have hne : w.heap.size ≠ wr.heap.size := by have := hblk.lt; omega
    have hsz := hbel.size
    have hlt2 := hblk.lt
    have hr0 : wr.cell? ⟨w.heap.size, 0, none⟩ = some (.int .i64 0) := hblk.cell 0
    have hr1 : wr.cell? ⟨w.heap.size, 1, none⟩ = some (.int .i64 0) := hblk.cell 1
    have hr2 : wr.cell? ⟨w.heap.size, 2, none⟩ = some (.int .i64 0) := hblk.cell 2
    have hf0 := hblk.frozen 0
    have hf1 := hblk.frozen 1
    have hf2 := hblk.frozen 2
    have HB := Lib.hid hbel
    have HK := Lib.hid hblk
    clear hbel hblk
    have hcase : k = 0 ∨ k = 1 ∨ k = 2 ∨ k = 3 ∨ k = 4 := by omega
    rcases hcase with rfl | rfl | rfl | rfl | rfl
    · go_wp2_with fail
      exact ⟨⟨1, by omega, rfl, HB.out.alloc hsz _, HK.out.alloc _⟩, by simp [intOf]⟩
    · go_wp2_with fail
      exact ⟨⟨2, by omega, rfl, HB.out.alloc hsz _, HK.out.alloc _⟩, by simp [intOf]⟩
    · go_wp2_with fail
      exact ⟨⟨3, by omega, rfl, HB.out.alloc hsz _, HK.out.alloc _⟩, by simp [intOf]⟩
    · go_wp2_with fail
      exact ⟨⟨4, by omega, rfl, HB.out.alloc hsz _, HK.out.alloc _⟩, by simp [intOf]⟩
    · go_wp2_with fail
      have hfin := (((HK.out.set_ 0 (.int .i64 15)).set_ 1 (.int .i64 4)).set_ 2 (.int .i64 59)).alloc (.cells #[.int .i64 15, .int .i64 4, .int .i64 59] 37)
      refine bodyPost_ret (v := .agg #[.int .i64 15, .int .i64 4, .int .i64 59]) (results_cell_row rfl _ _ w.heap.size 37 _ (0, 0) _ rfl hfin Tryd.underlying37 rfl (by kernel_rfl)) rfl ⟨rfl, ?_⟩
      exact (((HB.out.setCell (p := ⟨w.heap.size, 0, none⟩) (Nat.le_refl _) _).setCell (p := ⟨w.heap.size, 1, none⟩) (Nat.le_refl _) _).setCell (p := ⟨w.heap.size, 2, none⟩) (Nat.le_refl _) _).alloc (by simp [World.setCell]; omega) _
end Go.Proofs.YtempedbpieaggaaDoor
