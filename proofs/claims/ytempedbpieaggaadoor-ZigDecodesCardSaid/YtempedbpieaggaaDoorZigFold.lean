/- Contracts of zig.Fold and of the document's ZigFold: a small number is folded, another one is refused. -/
import Derived.Test.YtempedbpieaggaaDoorProg
import Derived.Test.YtempedbpieaggaaDoorZigPlain
import Derived.WalkKit
import Derived.WalkLawsBesides
namespace Go.Proofs.YtempedbpieaggaaDoor
open Go Go.RowKit

theorem fold_ok (n : Int) (h0 : -288230376151711744 ≤ n) (h : n < 288230376151711744) (w : World) :
    Calls Tryd.prog 14 #[.int .i64 n] w fun e w' => e = .returned (.tuple #[.int .i64 (zFold n), .int .i64 0]) ∧ w = w' := by
  go_enter Tryd.func14, Tryd.ntmps14
  go_wp2
  go_ret2
  exact ⟨ret2_of (zFold_xor n h0 h) rfl, rfl⟩
theorem fold_bad (n : Int) (h : n < -288230376151711744 ∨ 288230376151711744 ≤ n) (w : World) :
    Calls Tryd.prog 14 #[.int .i64 n] w fun e w' => e = .returned (.tuple #[.int .i64 0, .int .i64 11]) ∧ w = w' := by
  rcases h with h | h
  · go_enter Tryd.func14, Tryd.ntmps14
    go_wp2
    go_ret2
    exact ⟨rfl, rfl⟩
  · have hd : decide (n < 288230376151711744) = false := by simpa using h
    go_enter Tryd.func14, Tryd.ntmps14
    go_wp2
    go_ret2
    exact ⟨rfl, rfl⟩
theorem rFold_ok (n : Int) (h0 : -288230376151711744 ≤ n) (h : n < 288230376151711744) (w : World) :
    Calls Tryd.prog 16 #[.int .i64 n] w fun e w' => e = .returned (.tuple #[.int .i64 (zFold n), .int .i64 0]) ∧ w = w' := by
  by_cases hn : n < 0
  · go_enter Tryd.func16, Tryd.ntmps16
    go_wp2
    go_ret2
    exact ⟨ret2_of (zFold_neg n hn) rfl, rfl⟩
  · go_enter Tryd.func16, Tryd.ntmps16
    go_wp2
    go_ret2
    exact ⟨ret2_of (zFold_pos n (by omega)) rfl, rfl⟩
theorem rFold_bad (n : Int) (h : n < -288230376151711744 ∨ 288230376151711744 ≤ n) (w : World) :
    Calls Tryd.prog 16 #[.int .i64 n] w fun e w' => e = .returned (.tuple #[.int .i64 0, .int .i64 11]) ∧ w = w' := by
  rcases h with h | h
  · go_enter Tryd.func16, Tryd.ntmps16
    go_wp2
    go_ret2
    exact ⟨rfl, rfl⟩
  · have hd : decide (n < 288230376151711744) = false := by simpa using h
    go_enter Tryd.func16, Tryd.ntmps16
    go_wp2
    go_ret2
    exact ⟨rfl, rfl⟩
end Go.Proofs.YtempedbpieaggaaDoor
