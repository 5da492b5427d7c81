/- The contract of the document's bitAt. -/
import Derived.Test.YtempedbpieaggaaDoorEye
namespace Go.Proofs.YtempedbpieaggaaDoor
open Go Go.RowKit
set_option linter.unusedVariables false

theorem shr128i (r : Nat) (h : r < 8) : (128 : Int) / 2 ^ r = 2 ^ (7 - r) ∧ (1 : Int) ≤ 2 ^ (7 - r) ∧ (2 : Int) ^ (7 - r) ≤ 128 := by
  have e : r = 0 ∨ r = 1 ∨ r = 2 ∨ r = 3 ∨ r = 4 ∨ r = 5 ∨ r = 6 ∨ r = 7 := by omega
  rcases e with rfl | rfl | rfl | rfl | rfl | rfl | rfl | rfl <;> decide
theorem bitAt_any (a : Option Addr) (cap B : Nat) (l : List Int) (i : Nat) (w : World) (hi : i < 8 * l.length) (hl : l.length ≤ 140737488351232) (hr : Reads .u8 w B a l) :
    Calls Tryd.prog 30 #[.slice a l.length cap, .int .i64 i] w fun e w' => e = .returned (.int .i64 (bitOf l i)) ∧ ∃ d, w' = w.drewN d := by
  obtain ⟨b, off, rfl, hb, hc⟩ := hr.at_ (by omega)
  have hc0 := hc (i / 8) (by omega)
  have hxb := hr.u8 (i / 8)
  have hs := shr128i (i % 8) (by omega)
  have hbit : Hid (bitOf l i = l.getD (i / 8) 0 / 2 ^ (7 - i % 8) % 2) := rfl
  have hii : (i : Int) / 8 < (l.length : Int) := by omega
  clear hc
  generalize l.getD (i / 8) 0 = X at *
  obtain ⟨D, hD⟩ : ∃ D : Int, D = 2 ^ (7 - i % 8) := ⟨_, rfl⟩
  rw [← hD] at hs hbit
  have HS := Lib.hid hs.1
  have hD1 := hs.2.1
  have hD2 := hs.2.2
  have HD := Lib.hid hD
  clear hs hD
  obtain ⟨Y, hY⟩ : ∃ Y : Int, Y = X / D := ⟨_, rfl⟩
  have hYb : 0 ≤ Y ∧ Y ≤ 255 := by rw [hY]; exact ⟨Int.ediv_nonneg hxb.1 (by omega), Int.le_trans (Int.ediv_le_self _ hxb.1) hxb.2⟩
  have hshr : (128 : Int) / 2 ^ (i % 8) = D := HS.out
  have hD0 : ¬ D = 0 := by omega
  have hq2' : IntKind.i64.wrap (X.tdiv D) = Y := by rw [Int.tdiv_eq_ediv_of_nonneg hxb.1, ← hY]; exact IntWalk.i64_in _ (by omega)
  have hq3 : Y.tmod 2 = Y % 2 := Int.tmod_eq_emod_of_nonneg hYb.1
  have HY := Lib.hid hY
  clear hY
  go_enter Tryd.func30, Tryd.ntmps30
  go_wp2_with fail
  go_quiet (fail)
  go_wp2_with fail
  go_ret
  exact ⟨ret1_of (by rw [hbit.out, ← HY.out]), _, rfl⟩
end Go.Proofs.YtempedbpieaggaaDoor
