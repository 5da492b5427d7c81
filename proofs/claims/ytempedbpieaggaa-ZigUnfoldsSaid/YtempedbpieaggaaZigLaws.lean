/- The walks of the laws ZigFolds and ZigUnfolds: both texts give one result. -/
import Derived.Test.YtempedbpieaggaaZigFold
import Derived.Test.YtempedbpieaggaaZigUnfold
import Derived.Test.YtempedbpieaggaaRow
namespace Go.Proofs.Ytempedbpieaggaa
open Go Go.RowKit
set_option linter.unusedVariables false

theorem zigFolds_walk (a0 : Int) (w : World) (w0 : (Lit.int .i64 a0).wf = true) :
    Calls Try.prog 4 #[.int .i64 a0] w fun e w' => e = .returned (.bool true) ∧ Below w.heap.size w w' := by
  by_cases h : -288230376151711744 ≤ a0 ∧ a0 < 288230376151711744
  · obtain ⟨h1, h2⟩ := h
    go_enter Try.func4, Try.ntmps4
    go_wp2_with (first | (go_at_call 14; refine (fold_ok _ h1 h2 _).mono ?_; rintro e w' ⟨rfl, rfl⟩) | (go_at_call 15; refine (rFold_ok _ h1 h2 _).mono ?_; rintro e w' ⟨rfl, rfl⟩))
    go_ret
    exact ⟨rfl, Below.refl _ _⟩
  · have h1 : a0 < -288230376151711744 ∨ 288230376151711744 ≤ a0 := by omega
    clear h
    go_enter Try.func4, Try.ntmps4
    go_wp2_with (first | (go_at_call 14; refine (fold_bad _ h1 _).mono ?_; rintro e w' ⟨rfl, rfl⟩) | (go_at_call 15; refine (rFold_bad _ h1 _).mono ?_; rintro e w' ⟨rfl, rfl⟩))
    go_ret
    exact ⟨rfl, Below.refl _ _⟩
theorem zigUnfolds_walk (a0 : Int) (w : World) (w0 : (Lit.int .i64 a0).wf = true) :
    Calls Try.prog 3 #[.int .i64 a0] w fun e w' => e = .returned (.bool true) ∧ Below w.heap.size w w' := by
  by_cases h : 0 ≤ a0 ∧ a0 < 576460752303423488
  · obtain ⟨h1, h2⟩ := h
    go_enter Try.func3, Try.ntmps3
    go_wp2_with (first | (go_at_call 12; refine (unfold_ok _ h1 h2 _).mono ?_; rintro e w' ⟨rfl, rfl⟩) | (go_at_call 13; refine (rUnfold_ok _ h1 h2 _).mono ?_; rintro e w' ⟨rfl, rfl⟩))
    go_ret
    exact ⟨rfl, Below.refl _ _⟩
  · have h1 : a0 < 0 ∨ 576460752303423488 ≤ a0 := by omega
    clear h
    go_enter Try.func3, Try.ntmps3
    go_wp2_with (first | (go_at_call 12; refine (unfold_bad _ h1 _).mono ?_; rintro e w' ⟨rfl, rfl⟩) | (go_at_call 13; refine (rUnfold_bad _ h1 _).mono ?_; rintro e w' ⟨rfl, rfl⟩))
    go_ret
    exact ⟨rfl, Below.refl _ _⟩
end Go.Proofs.Ytempedbpieaggaa
