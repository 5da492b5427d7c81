/- The walk of the law Names: the numbers of package api are the document's. -/
import Derived.Test.YtlhncpbcbpdcfaaProg
import Derived.WalkKit
import Derived.WalkLawsBesides
import Derived.LoopTactic
import Derived.Deep.QuietTactic
import Derived.BigQuiet
import Derived.Outline
import Derived.Lib.Hide
import Derived.Below
namespace Go.Proofs.Ytlhncpbcbpdcfaa
open Go Go.RowKit
set_option linter.unusedVariables false

theorem below_drewN {B : Nat} {a w : World} (h : Below B a w) (n : Nat) : Below B a (w.drewN n) := ⟨h.os, h.tape, h.output, h.size, h.block⟩
theorem get_map (ns : List Int) (k : Nat) (h : k < (ns.map (Value.int .i64)).length) : (ns.map (Value.int .i64))[k] = .int .i64 (ns.getD k 0) := by
  rw [List.getElem_map]; simp only [List.length_map] at h; simp [List.getD, List.getElem?_eq_getElem h]
theorem errs_get (k : Nat) (h : k < 12) : ([0, 1, 2, 3, 4, 5, 6, 7, 8, 9, 10, 11] : List Int).getD k 0 = k := by
  have : k = 0 ∨ k = 1 ∨ k = 2 ∨ k = 3 ∨ k = 4 ∨ k = 5 ∨ k = 6 ∨ k = 7 ∨ k = 8 ∨ k = 9 ∨ k = 10 ∨ k = 11 := by omega
  rcases this with rfl | rfl | rfl | rfl | rfl | rfl | rfl | rfl | rfl | rfl | rfl | rfl <;> rfl
set_option maxRecDepth 100000 in
set_option maxHeartbeats 1000000 in
theorem names_walk (w : World) :
    Calls Try.prog 3 #[] w fun e w' => e = .returned (.bool true) ∧ Below w.heap.size w w' := by
  go_enter Try.func3, Try.ntmps3
  go_wp2
  go_loop [2] (fun i => ∃ k : Nat, k ≤ 12 ∧ i = .int .i64 k) (fun i => 12 - (intOf i).toNat)
  case atStart => exact ⟨0, by omega, rfl⟩
  case round =>
    obtain ⟨k, hk, rfl⟩ := hrel
    by_cases hlt : k < 12
    · have hg : ([.int .i64 0, .int .i64 1, .int .i64 2, .int .i64 3, .int .i64 4, .int .i64 5, .int .i64 6, .int .i64 7, .int .i64 8, .int .i64 9, .int .i64 10, .int .i64 11] : List Value)[k]'(by simpa using hlt) = .int .i64 k := (get_map [0, 1, 2, 3, 4, 5, 6, 7, 8, 9, 10, 11] k (by simpa using hlt)).trans (by rw [errs_get k hlt])
      go_wp2
      go_round
      case rel => exact ⟨k + 1, by omega, by go_num⟩
      case measure => simp [intOf]; omega
    · have : k = 12 := by omega
      subst this
      go_wp2
      go_loopw [7] (fun i wr => ∃ k n : Nat, k ≤ 32 ∧ i = .int .i64 k ∧ wr = World.drewN (((((w.alloc (.cells #[.int .i64 0, .int .i64 1, .int .i64 2, .int .i64 3, .int .i64 4, .int .i64 5, .int .i64 6, .int .i64 7, .int .i64 8, .int .i64 9, .int .i64 10, .int .i64 11] 22)).alloc (.cells #[.int .i64 1, .int .i64 2, .int .i64 3, .int .i64 4, .int .i64 5, .int .i64 6, .int .i64 7, .int .i64 8, .int .i64 9, .int .i64 10, .int .i64 11, .int .i64 12, .int .i64 13, .int .i64 14, .int .i64 15, .int .i64 16, .int .i64 17, .int .i64 1, .int .i64 2, .int .i64 3, .int .i64 4, .int .i64 1, .int .i64 2, .int .i64 3, .int .i64 4, .int .i64 5, .int .i64 6, .int .i64 7, .int .i64 1, .int .i64 2, .int .i64 3, .int .i64 4] 3)).alloc (.cells #[.int .i64 1, .int .i64 2, .int .i64 3, .int .i64 4, .int .i64 5, .int .i64 6, .int .i64 7, .int .i64 8, .int .i64 9, .int .i64 10, .int .i64 11, .int .i64 12, .int .i64 13, .int .i64 14, .int .i64 15, .int .i64 16, .int .i64 17, .int .i64 1, .int .i64 2, .int .i64 3, .int .i64 4, .int .i64 1, .int .i64 2, .int .i64 3, .int .i64 4, .int .i64 5, .int .i64 6, .int .i64 7, .int .i64 1, .int .i64 2, .int .i64 3, .int .i64 4] 3)).alloc (.cells #[.int .i64 60, .int .i64 400, .int .i64 120, .int .i64 4000, .int .i64 200, .int .i64 1048576, .int .i64 100, .int .i64 24, .int .i64 200, .int .i64 200, .int .i64 8, .int .i64 4, .int .i64 20, .int .i64 8, .int .i64 6000, .int .i64 9, .int .i64 6, .int .i64 4, .int .i64 8, .int .i64 8, .int .i64 6, .int .i64 8, .int .i64 30, .int .i64 300, .int .i64 8, .int .i64 120, .int .i64 20, .int .i64 6, .int .i64 40, .int .i64 8] 3)).alloc (.cells #[.int .i64 60, .int .i64 400, .int .i64 120, .int .i64 4000, .int .i64 200, .int .i64 1048576, .int .i64 100, .int .i64 24, .int .i64 200, .int .i64 200, .int .i64 8, .int .i64 4, .int .i64 20, .int .i64 8, .int .i64 6000, .int .i64 9, .int .i64 6, .int .i64 4, .int .i64 8, .int .i64 8, .int .i64 6, .int .i64 8, .int .i64 30, .int .i64 300, .int .i64 8, .int .i64 120, .int .i64 20, .int .i64 6, .int .i64 40, .int .i64 8] 3)) n) (fun i _ => 32 - (intOf i).toNat)
      case atStart => exact ⟨0, 0, by omega, rfl, rfl⟩
      case round =>
        obtain ⟨k, n, hk, rfl, rfl⟩ := hrel
        by_cases hlt : k < 32
        · have hg : ([.int .i64 1, .int .i64 2, .int .i64 3, .int .i64 4, .int .i64 5, .int .i64 6, .int .i64 7, .int .i64 8, .int .i64 9, .int .i64 10, .int .i64 11, .int .i64 12, .int .i64 13, .int .i64 14, .int .i64 15, .int .i64 16, .int .i64 17, .int .i64 1, .int .i64 2, .int .i64 3, .int .i64 4, .int .i64 1, .int .i64 2, .int .i64 3, .int .i64 4, .int .i64 5, .int .i64 6, .int .i64 7, .int .i64 1, .int .i64 2, .int .i64 3, .int .i64 4] : List Value)[k]'(by simpa using hlt) = .int .i64 (([1, 2, 3, 4, 5, 6, 7, 8, 9, 10, 11, 12, 13, 14, 15, 16, 17, 1, 2, 3, 4, 1, 2, 3, 4, 5, 6, 7, 1, 2, 3, 4] : List Int).getD k 0) := get_map [1, 2, 3, 4, 5, 6, 7, 8, 9, 10, 11, 12, 13, 14, 15, 16, 17, 1, 2, 3, 4, 1, 2, 3, 4, 5, 6, 7, 1, 2, 3, 4] k (by simpa using hlt)
          have hlt' : (k : Int) < 32 := by omega
          generalize ([1, 2, 3, 4, 5, 6, 7, 8, 9, 10, 11, 12, 13, 14, 15, 16, 17, 1, 2, 3, 4, 1, 2, 3, 4, 5, 6, 7, 1, 2, 3, 4] : List Int).getD k 0 = x at *
          go_wp2
          go_quiet (fail)
          go_wp2
          go_roundw
          case rel => exact ⟨k + 1, _, by omega, by go_num, rfl⟩
          case measure => simp [intOf]; omega
        · have : k = 32 := by omega
          subst this
          go_wp2
          go_loopw [8] (fun i wr => ∃ k n : Nat, k ≤ 30 ∧ i = .int .i64 k ∧ wr = World.drewN (((((w.alloc (.cells #[.int .i64 0, .int .i64 1, .int .i64 2, .int .i64 3, .int .i64 4, .int .i64 5, .int .i64 6, .int .i64 7, .int .i64 8, .int .i64 9, .int .i64 10, .int .i64 11] 22)).alloc (.cells #[.int .i64 1, .int .i64 2, .int .i64 3, .int .i64 4, .int .i64 5, .int .i64 6, .int .i64 7, .int .i64 8, .int .i64 9, .int .i64 10, .int .i64 11, .int .i64 12, .int .i64 13, .int .i64 14, .int .i64 15, .int .i64 16, .int .i64 17, .int .i64 1, .int .i64 2, .int .i64 3, .int .i64 4, .int .i64 1, .int .i64 2, .int .i64 3, .int .i64 4, .int .i64 5, .int .i64 6, .int .i64 7, .int .i64 1, .int .i64 2, .int .i64 3, .int .i64 4] 3)).alloc (.cells #[.int .i64 1, .int .i64 2, .int .i64 3, .int .i64 4, .int .i64 5, .int .i64 6, .int .i64 7, .int .i64 8, .int .i64 9, .int .i64 10, .int .i64 11, .int .i64 12, .int .i64 13, .int .i64 14, .int .i64 15, .int .i64 16, .int .i64 17, .int .i64 1, .int .i64 2, .int .i64 3, .int .i64 4, .int .i64 1, .int .i64 2, .int .i64 3, .int .i64 4, .int .i64 5, .int .i64 6, .int .i64 7, .int .i64 1, .int .i64 2, .int .i64 3, .int .i64 4] 3)).alloc (.cells #[.int .i64 60, .int .i64 400, .int .i64 120, .int .i64 4000, .int .i64 200, .int .i64 1048576, .int .i64 100, .int .i64 24, .int .i64 200, .int .i64 200, .int .i64 8, .int .i64 4, .int .i64 20, .int .i64 8, .int .i64 6000, .int .i64 9, .int .i64 6, .int .i64 4, .int .i64 8, .int .i64 8, .int .i64 6, .int .i64 8, .int .i64 30, .int .i64 300, .int .i64 8, .int .i64 120, .int .i64 20, .int .i64 6, .int .i64 40, .int .i64 8] 3)).alloc (.cells #[.int .i64 60, .int .i64 400, .int .i64 120, .int .i64 4000, .int .i64 200, .int .i64 1048576, .int .i64 100, .int .i64 24, .int .i64 200, .int .i64 200, .int .i64 8, .int .i64 4, .int .i64 20, .int .i64 8, .int .i64 6000, .int .i64 9, .int .i64 6, .int .i64 4, .int .i64 8, .int .i64 8, .int .i64 6, .int .i64 8, .int .i64 30, .int .i64 300, .int .i64 8, .int .i64 120, .int .i64 20, .int .i64 6, .int .i64 40, .int .i64 8] 3)) n) (fun i _ => 30 - (intOf i).toNat)
          case atStart => exact ⟨0, _, by omega, rfl, rfl⟩
          case round =>
            obtain ⟨k, n, hk, rfl, rfl⟩ := hrel
            by_cases hlt : k < 30
            · have hg : ([.int .i64 60, .int .i64 400, .int .i64 120, .int .i64 4000, .int .i64 200, .int .i64 1048576, .int .i64 100, .int .i64 24, .int .i64 200, .int .i64 200, .int .i64 8, .int .i64 4, .int .i64 20, .int .i64 8, .int .i64 6000, .int .i64 9, .int .i64 6, .int .i64 4, .int .i64 8, .int .i64 8, .int .i64 6, .int .i64 8, .int .i64 30, .int .i64 300, .int .i64 8, .int .i64 120, .int .i64 20, .int .i64 6, .int .i64 40, .int .i64 8] : List Value)[k]'(by simpa using hlt) = .int .i64 (([60, 400, 120, 4000, 200, 1048576, 100, 24, 200, 200, 8, 4, 20, 8, 6000, 9, 6, 4, 8, 8, 6, 8, 30, 300, 8, 120, 20, 6, 40, 8] : List Int).getD k 0) := get_map [60, 400, 120, 4000, 200, 1048576, 100, 24, 200, 200, 8, 4, 20, 8, 6000, 9, 6, 4, 8, 8, 6, 8, 30, 300, 8, 120, 20, 6, 40, 8] k (by simpa using hlt)
              have hlt' : (k : Int) < 30 := by omega
              generalize ([60, 400, 120, 4000, 200, 1048576, 100, 24, 200, 200, 8, 4, 20, 8, 6000, 9, 6, 4, 8, 8, 6, 8, 30, 300, 8, 120, 20, 6, 40, 8] : List Int).getD k 0 = x at *
              go_wp2
              go_quiet (fail)
              go_wp2
              go_roundw
              case rel => exact ⟨k + 1, _, by omega, by go_num, rfl⟩
              case measure => simp [intOf]; omega
            · have : k = 30 := by omega
              subst this
              go_wp2
              go_ret
              refine ⟨rfl, below_drewN ?_ _⟩
              repeat (first | exact Below.refl _ _ | refine Below.alloc ?_ (by simp <;> omega) _)
end Go.Proofs.Ytlhncpbcbpdcfaa
