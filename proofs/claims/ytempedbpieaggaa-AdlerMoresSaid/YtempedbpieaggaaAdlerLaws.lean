/- The walks of the laws AdlerOfs and AdlerMores: the program's sums are the document's. -/
import Derived.Test.YtempedbpieaggaaAdlerRef
namespace Go.Proofs.Ytempedbpieaggaa
open Go Go.RowKit
set_option linter.unusedVariables false

theorem adlerMores_walk (a0 : Int) (a1 : Option Addr) (len1 cap1 : Nat) (z1 : List Int) (w : World) (w0 : (Lit.int .i64 a0).wf = true) (w1 : IsRow .u8 w a1 len1 cap1 z1) :
    Calls Try.prog 8 #[.int .i64 a0, .slice a1 len1 cap1] w fun e w' => e = .returned (.bool true) ∧ Below w.heap.size w w' := by
  obtain ⟨hr, hl⟩ := w1.reads
  generalize z1.take len1 = l at hr hl
  subst hl
  by_cases h : isSum a0
  · have H := Lib.hid h
    clear h
    go_enter Try.func8, Try.ntmps8
    go_wp2_with fail
    refine (more_yes a0 w0 H.out a1 l.length cap1 w.heap.size l _ rfl (Nat.le_refl _) hr).mono ?_
    rintro e x1 ⟨rfl, hb1⟩
    go_wp2_with fail
    refine (rMore_yes a0 w0 H.out a1 cap1 w.heap.size l _ (hr.below hb1)).mono ?_
    rintro e x2 ⟨rfl, rfl⟩
    go_wp2_with fail
    go_ret
    exact ⟨rfl, hb1⟩
  · have H := Lib.hid h
    clear h
    go_enter Try.func8, Try.ntmps8
    go_wp2_with fail
    refine (more_no a0 w0 H.out a1 l.length cap1 _).mono ?_
    rintro e x1 ⟨rfl, hb1⟩
    go_wp2_with fail
    refine (rMore_no a0 w0 H.out a1 l.length cap1 _).mono ?_
    rintro e x2 ⟨rfl, rfl⟩
    go_wp2_with fail
    go_ret
    exact ⟨rfl, hb1⟩
theorem isSum_one : isSum 1 := by unfold isSum; decide
theorem adlerOfs_walk (a1 : Option Addr) (len1 cap1 : Nat) (z1 : List Int) (w : World) (w1 : IsRow .u8 w a1 len1 cap1 z1) :
    Calls Try.prog 7 #[.slice a1 len1 cap1] w fun e w' => e = .returned (.bool true) ∧ Below w.heap.size w w' := by
  obtain ⟨hr, hl⟩ := w1.reads
  generalize z1.take len1 = l at hr hl
  subst hl
  go_enter Try.func7, Try.ntmps7
  go_wp2_with fail
  refine (rMore_yes 1 (by decide) isSum_one a1 cap1 w.heap.size l _ hr).mono ?_
  rintro e x2 ⟨rfl, rfl⟩
  go_wp2_with fail
  refine (of_any a1 l.length cap1 w.heap.size l _ rfl (Nat.le_refl _) hr).mono ?_
  rintro e x1 ⟨rfl, hb1⟩
  go_wp2_with fail
  go_ret
  exact ⟨rfl, hb1⟩
end Go.Proofs.Ytempedbpieaggaa
