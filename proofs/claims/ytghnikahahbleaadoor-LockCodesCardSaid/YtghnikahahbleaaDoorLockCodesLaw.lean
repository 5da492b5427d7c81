/- The law LockCodes. -/
import Derived.Test.YtghnikahahbleaaDoorLockCodes
namespace Go.Proofs.YtghnikahahbleaaDoor
open Go Nice
set_option linter.unusedVariables false
set_option maxRecDepth 100000
theorem lockCodes_walk  (a0 : Int) (W : World) (w0 : (Lit.int .i64 a0).wf = true)  :
    Calls Tryd.prog 4 #[.int .i64 a0] W fun e w' => e = .returned (.bool true) ∧ RowKit.Below W.heap.size W w' := by
  have w0 := lt_of_wf w0
  refine law_walk  (law_all a0) rfl rfl ?_ ?_
  · first | exact fun g ρ => .any _ | exact hG
  · intro i x hx
    match i, hx with
    | 0, hx => cases hx; exact ⟨.int .i64 a0, rfl, (.d _ _ (.val _ rfl))⟩
    | n + 1, hx => simp at hx
end Go.Proofs.YtghnikahahbleaaDoor
