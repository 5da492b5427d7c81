/- Contracts of zig.Unfold and of the document's ZigUnfold: a folded number is unfolded, another one is refused. -/
import Derived.Test.YtempedbpieaggaaDoorProg
import Derived.Test.YtempedbpieaggaaDoorZigPlain
import Derived.WalkKit
import Derived.WalkLawsBesides
namespace Go.Proofs.YtempedbpieaggaaDoor
open Go Go.RowKit

theorem unfold_ok (n : Int) (h0 : 0 ≤ n) (h : n < 576460752303423488) (w : World) :
    Calls Tryd.prog 29 #[.int .i64 n] w fun e w' => e = .returned (.tuple #[.int .i64 (zUnf n), .int .i64 0]) ∧ w = w' := by
  have hb := i64_and_one n (by omega) (by omega)
  go_enter Tryd.func29, Tryd.ntmps29
  go_wp2
  go_ret2
  exact ⟨ret2_of (zUnf_xor n h0 h) rfl, rfl⟩
theorem unfold_bad (n : Int) (h : n < 0 ∨ 576460752303423488 ≤ n) (w : World) :
    Calls Tryd.prog 29 #[.int .i64 n] w fun e w' => e = .returned (.tuple #[.int .i64 0, .int .i64 11]) ∧ w = w' := by
  rcases h with h | h
  all_goals
    go_enter Tryd.func29, Tryd.ntmps29
    go_wp2
    go_ret2
    exact ⟨rfl, rfl⟩
theorem rUnfold_ok (n : Int) (h0 : 0 ≤ n) (h : n < 576460752303423488) (w : World) :
    Calls Tryd.prog 31 #[.int .i64 n] w fun e w' => e = .returned (.tuple #[.int .i64 (zUnf n), .int .i64 0]) ∧ w = w' := by
  cases hn : (n % 2 == 1)
  · go_enter Tryd.func31, Tryd.ntmps31
    go_wp2
    go_ret2
    exact ⟨ret2_of (zUnf_even n hn) rfl, rfl⟩
  · go_enter Tryd.func31, Tryd.ntmps31
    go_wp2
    go_ret2
    exact ⟨ret2_of (zUnf_odd n hn h0 h) rfl, rfl⟩
theorem rUnfold_bad (n : Int) (h : n < 0 ∨ 576460752303423488 ≤ n) (w : World) :
    Calls Tryd.prog 31 #[.int .i64 n] w fun e w' => e = .returned (.tuple #[.int .i64 0, .int .i64 11]) ∧ w = w' := by
  rcases h with h | h
  all_goals
    go_enter Tryd.func31, Tryd.ntmps31
    go_wp2
    go_ret2
    exact ⟨rfl, rfl⟩
end Go.Proofs.YtempedbpieaggaaDoor
