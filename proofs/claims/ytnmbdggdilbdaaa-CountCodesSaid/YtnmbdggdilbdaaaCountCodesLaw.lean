/- The law CountCodes. -/
import Derived.Test.YtnmbdggdilbdaaaCountCodes
namespace Go.Proofs.Ytnmbdggdilbdaaa
open Go Nice
set_option linter.unusedVariables false
set_option maxRecDepth 100000
theorem countCodes_walk   (W : World)   :
    Calls Try.prog 5 #[] W fun e w' => e = .returned (.bool true) ∧ RowKit.Below W.heap.size W w' := by
  refine law_walk  (law_all) rfl rfl ?_ ?_
  · first | exact fun g ρ => .any _ | exact hG
  · intro i x hx
    match i, hx with
    | n + 0, hx => simp at hx
end Go.Proofs.Ytnmbdggdilbdaaa
