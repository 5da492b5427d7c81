/- Contracts of sameBytes and sameInts: of two slices that read as one list they say true. -/
import Derived.Test.YtempedbpieaggaaDoorProg
import Derived.Test.YtempedbpieaggaaDoorOwn
import Derived.WalkKit
import Derived.WalkLawsBesides
import Derived.LoopTactic
import Derived.Deep.QuietTactic
import Derived.BigQuiet
import Derived.Outline
import Derived.Lib.Hide
namespace Go.Proofs.YtempedbpieaggaaDoor
open Go Go.RowKit
set_option linter.unusedVariables false


set_option maxHeartbeats 400000 in
theorem same_bytes (a b : Option Addr) (ca cb B : Nat) (l : List Int) (w : World) (ha : Reads .u8 w B a l) (hb : Reads .u8 w B b l) :
    Calls Tryd.prog 10 #[.slice a l.length ca, .slice b l.length cb] w fun e w' => e = .returned (.bool true) ∧ Below w.heap.size w w' := by
  have hm : l.length ≤ 9223372036854775807 := by have := ha.1; unfold maxLen at this; omega
  go_enter Tryd.func10, Tryd.ntmps10
  go_wp2
  go_loopw [5] (fun i wr => ∃ k n : Nat, k ≤ l.length ∧ i = .int .i64 k ∧ wr = w.drewN n) (fun i _ => l.length - (intOf i).toNat)
  case atStart => exact ⟨0, 0, Nat.zero_le _, rfl, rfl⟩
  case round =>
    obtain ⟨k, n, hk, rfl, rfl⟩ := hrel
    by_cases hlt : k < l.length
    · obtain ⟨ba, oa, rfl, hba, hca⟩ := ha.at_ (by omega)
      obtain ⟨bb, ob, rfl, hbb, hcb⟩ := hb.at_ (by omega)
      have h1 := hca k hlt
      have h2 := hcb k hlt
      clear hca hcb
      have hlt' : (k : Int) < (l.length : Int) := by omega
      generalize l.getD k 0 = x at *
      go_wp2
      go_quiet (fail)
      go_wp2
      go_roundw
      case rel => exact ⟨k + 1, _, by omega, by go_num, rfl⟩
      case measure => simp [intOf]; omega
    · have : k = l.length := by omega
      subst this
      go_wp2
      go_ret
      exact ⟨rfl, below_drewN (Below.refl _ _) _⟩
set_option maxHeartbeats 400000 in
theorem same_ints (a b : Option Addr) (ca cb B : Nat) (l : List Int) (w : World) (ha : Reads .i64 w B a l) (hb : Reads .i64 w B b l) :
    Calls Tryd.prog 13 #[.slice a l.length ca, .slice b l.length cb] w fun e w' => e = .returned (.bool true) ∧ Below w.heap.size w w' := by
  have hm : l.length ≤ 9223372036854775807 := by have := ha.1; unfold maxLen at this; omega
  go_enter Tryd.func13, Tryd.ntmps13
  go_wp2
  go_loopw [5] (fun i wr => ∃ k n : Nat, k ≤ l.length ∧ i = .int .i64 k ∧ wr = w.drewN n) (fun i _ => l.length - (intOf i).toNat)
  case atStart => exact ⟨0, 0, Nat.zero_le _, rfl, rfl⟩
  case round =>
    obtain ⟨k, n, hk, rfl, rfl⟩ := hrel
    by_cases hlt : k < l.length
    · obtain ⟨ba, oa, rfl, hba, hca⟩ := ha.at_ (by omega)
      obtain ⟨bb, ob, rfl, hbb, hcb⟩ := hb.at_ (by omega)
      have h1 := hca k hlt
      have h2 := hcb k hlt
      clear hca hcb
      have hlt' : (k : Int) < (l.length : Int) := by omega
      generalize l.getD k 0 = x at *
      go_wp2
      go_quiet (fail)
      go_wp2
      go_roundw
      case rel => exact ⟨k + 1, _, by omega, by go_num, rfl⟩
      case measure => simp [intOf]; omega
    · have : k = l.length := by omega
      subst this
      go_wp2
      go_ret
      exact ⟨rfl, below_drewN (Below.refl _ _) _⟩
end Go.Proofs.YtempedbpieaggaaDoor
