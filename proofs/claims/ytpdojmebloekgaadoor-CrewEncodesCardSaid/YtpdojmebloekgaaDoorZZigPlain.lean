/- What zig.Fold and zig.Unfold give, as plain functions on numbers, in the spellings of both texts. No program is in sight. -/
import Derived.Test.YtpdojmebloekgaaDoorZBits
import Derived.WalkKit
namespace Go.Proofs.YtpdojmebloekgaaDoor
open Go Go.RowKit

/-- What Unfold gives. -/
def zUnf (n : Int) : Int := if n % 2 = 1 then -((n + 1) / 2) else n / 2
/-- What Fold gives. -/
def zFold (n : Int) : Int := if n < 0 then -2 * n - 1 else 2 * n

theorem ret2_of {k l : IntKind} {a b c d : Int} (h : a = b) (g : c = d) : Ending.returned (.tuple #[.int k a, .int l c]) = .returned (.tuple #[.int k b, .int l d]) := by rw [h, g]
theorem ret1_of {k : IntKind} {a b : Int} (h : a = b) : Ending.returned (.int k a) = .returned (.int k b) := by rw [h]

theorem zUnf_even (n : Int) (h : (n % 2 == 1) = false) : n / 2 = zUnf n := by
  have : ¬ n % 2 = 1 := by simpa using h
  unfold zUnf; rw [if_neg this]
theorem zUnf_odd (n : Int) (h : (n % 2 == 1) = true) (h0 : 0 ≤ n) (h1 : n < 576460752303423488) : wrap64 (-(n + 1).tdiv 2) = zUnf n := by
  have : n % 2 = 1 := by simpa using h
  unfold zUnf; rw [if_pos this, Int.tdiv_eq_ediv_of_nonneg (by omega), IntWalk.wrap64_in _ (by omega)]
theorem zUnf_xor (n : Int) (h0 : 0 ≤ n) (h1 : n < 576460752303423488) : bits .xor .i64 (n / 2) (-(n % 2)) = zUnf n := by
  unfold zUnf
  split
  · next h => rw [h, i64_xor_ones _ (by omega) (by omega)]; omega
  · next h => rw [show n % 2 = 0 by omega, Int.neg_zero, i64_xor_zero _ (by omega) (by omega)]
theorem zFold_xor (n : Int) (h0 : -288230376151711744 ≤ n) (h1 : n < 288230376151711744) : bits .xor .i64 (n * 2) (n / 9223372036854775808) = zFold n := by
  unfold zFold
  split
  · next h => rw [show n / 9223372036854775808 = -1 by omega, i64_xor_ones _ (by omega) (by omega)]; omega
  · next h => rw [show n / 9223372036854775808 = 0 by omega, i64_xor_zero _ (by omega) (by omega)]; omega
theorem zFold_neg (n : Int) (h : n < 0) : -2 * n - 1 = zFold n := by unfold zFold; rw [if_pos h]
theorem zFold_pos (n : Int) (h : ¬ n < 0) : 2 * n = zFold n := by unfold zFold; rw [if_neg h]
theorem zFold_bd (n : Int) (h0 : -288230376151711744 ≤ n) (h1 : n < 288230376151711744) : 0 ≤ zFold n ∧ zFold n < 576460752303423488 := by
  unfold zFold; split <;> omega
theorem zUnf_bd (n : Int) (h0 : 0 ≤ n) (h1 : n < 576460752303423488) : -288230376151711744 ≤ zUnf n ∧ zUnf n < 288230376151711744 := by
  unfold zUnf; split <;> omega
end Go.Proofs.YtpdojmebloekgaaDoor
