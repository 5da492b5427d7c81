/- Contracts of adler's split and pair.sum. -/
import Derived.Test.YtempedbpieaggaaProg
import Derived.Test.YtempedbpieaggaaAdlerPlain
import Derived.Test.YtempedbpieaggaaZigPlain
import Derived.Test.YtempedbpieaggaaRow
import Derived.WalkKit
import Derived.WalkLawsBesides
import Derived.RegionTactic
import Derived.BigRegion
import Derived.BigQuiet
import Derived.ChangeAlike
import Derived.Lib.Hide
import Derived.Outline
namespace Go.Proofs.Ytempedbpieaggaa
open Go Go.RowKit
set_option linter.unusedVariables false

theorem sum_any (a b : Int) (h1 : 0 ≤ a) (h2 : a < 65521) (h3 : 0 ≤ b) (h4 : b < 65521) (w : World) :
    Calls Try.prog 42 #[.agg #[.int .i64 a, .int .i64 b]] w fun e w' => e = .returned (.int .i64 (65536 * b + a)) ∧ Below w.heap.size w w' := by
  have hj := Lib.hid (join16 a b h1 (by omega) h3 (by omega))
  go_enter Try.func42, Try.ntmps42
  go_wp2
  go_ret
  exact ⟨ret1_of (by rw [hj.out]; omega), (Below.refl _ _).alloc (Nat.le_refl _) _⟩

theorem split_neg (n : Int) (h0 : -9223372036854775808 ≤ n) (h : n < 0) (w : World) :
    Calls Try.prog 43 #[.int .i64 n] w fun e w' => e = .returned (.tuple #[.agg #[.int .i64 (n % 65536), .int .i64 (n / 65536)], .bool false]) ∧ Below w.heap.size w w' := by
  have hb := i64_and_65535 n (by omega) (by omega)
  have hd : decide (0 ≤ n) = false := by simpa using h
  go_enter Try.func43, Try.ntmps43
  go_wp2
  go_region
  go_wp2
  exact bodyPost_ret (v := .tuple #[.agg #[.int .i64 (n % 65536), .int .i64 (n / 65536)], .bool false]) (by simp [results, Try.results43, go_sem]) rfl ⟨rfl, (((Below.refl _ _).alloc (Nat.le_refl _) _).alloc (by simp) _).drew⟩
theorem split_bigA (n : Int) (h0 : 0 ≤ n) (h1 : n < 9223372036854775808) (h : 65521 ≤ n % 65536) (w : World) :
    Calls Try.prog 43 #[.int .i64 n] w fun e w' => e = .returned (.tuple #[.agg #[.int .i64 (n % 65536), .int .i64 (n / 65536)], .bool false]) ∧ Below w.heap.size w w' := by
  have hb := i64_and_65535 n (by omega) (by omega)
  have hd : decide (0 ≤ n) = true := by simpa using h0
  have he : decide (n % 65536 < 65521) = false := by simpa using h
  go_enter Try.func43, Try.ntmps43
  go_wp2
  go_region
  go_wp2
  exact bodyPost_ret (v := .tuple #[.agg #[.int .i64 (n % 65536), .int .i64 (n / 65536)], .bool false]) (by simp [results, Try.results43, go_sem]) rfl ⟨rfl, (((Below.refl _ _).alloc (Nat.le_refl _) _).alloc (by simp) _).drew⟩
theorem split_bigB (n : Int) (h0 : 0 ≤ n) (h1 : n < 9223372036854775808) (h : n % 65536 < 65521) (h2 : 65521 ≤ n / 65536) (w : World) :
    Calls Try.prog 43 #[.int .i64 n] w fun e w' => e = .returned (.tuple #[.agg #[.int .i64 (n % 65536), .int .i64 (n / 65536)], .bool false]) ∧ Below w.heap.size w w' := by
  have hb := i64_and_65535 n (by omega) (by omega)
  have hd : decide (0 ≤ n) = true := by simpa using h0
  have he : decide (n % 65536 < 65521) = true := by simpa using h
  have hf : decide (n / 65536 < 65521) = false := by simpa using h2
  go_enter Try.func43, Try.ntmps43
  go_wp2
  go_region
  go_wp2
  exact bodyPost_ret (v := .tuple #[.agg #[.int .i64 (n % 65536), .int .i64 (n / 65536)], .bool false]) (by simp [results, Try.results43, go_sem]) rfl ⟨rfl, (((Below.refl _ _).alloc (Nat.le_refl _) _).alloc (by simp) _).drew⟩
theorem split_ok (n : Int) (h0 : 0 ≤ n) (h1 : n < 9223372036854775808) (h : n % 65536 < 65521) (h2 : n / 65536 < 65521) (w : World) :
    Calls Try.prog 43 #[.int .i64 n] w fun e w' => e = .returned (.tuple #[.agg #[.int .i64 (n % 65536), .int .i64 (n / 65536)], .bool true]) ∧ Below w.heap.size w w' := by
  have hb := i64_and_65535 n (by omega) (by omega)
  have hd : decide (0 ≤ n) = true := by simpa using h0
  have he : decide (n % 65536 < 65521) = true := by simpa using h
  have hf : decide (n / 65536 < 65521) = true := by simpa using h2
  go_enter Try.func43, Try.ntmps43
  go_wp2
  go_region
  go_wp2
  exact bodyPost_ret (v := .tuple #[.agg #[.int .i64 (n % 65536), .int .i64 (n / 65536)], .bool true]) (by simp [results, Try.results43, go_sem]) rfl ⟨rfl, (((Below.refl _ _).alloc (Nat.le_refl _) _).alloc (by simp) _).drew⟩
/-- Is a number a sum? -/
def isSum (n : Int) : Prop := 0 ≤ n ∧ n % 65536 < 65521 ∧ n / 65536 < 65521
theorem split_no (n : Int) (wf : (Lit.int .i64 n).wf = true) (h : ¬ isSum n) (w : World) :
    Calls Try.prog 43 #[.int .i64 n] w fun e w' => e = .returned (.tuple #[.agg #[.int .i64 (n % 65536), .int .i64 (n / 65536)], .bool false]) ∧ Below w.heap.size w w' := by
  have hb := i64_bd wf
  unfold isSum at h
  by_cases h0 : n < 0
  · exact split_neg n hb.1 h0 w
  · by_cases h1 : n % 65536 < 65521
    · exact split_bigB n (by omega) (by omega) h1 (by omega) w
    · exact split_bigA n (by omega) (by omega) (by omega) w
theorem split_yes (n : Int) (wf : (Lit.int .i64 n).wf = true) (h : isSum n) (w : World) :
    Calls Try.prog 43 #[.int .i64 n] w fun e w' => e = .returned (.tuple #[.agg #[.int .i64 (n % 65536), .int .i64 (n / 65536)], .bool true]) ∧ Below w.heap.size w w' :=
  split_ok n h.1 (by have := i64_bd wf; omega) h.2.1 h.2.2 w
end Go.Proofs.Ytempedbpieaggaa
