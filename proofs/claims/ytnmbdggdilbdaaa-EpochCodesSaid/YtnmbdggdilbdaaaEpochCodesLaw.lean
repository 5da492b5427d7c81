/- The law EpochCodes. -/
import Derived.Test.YtnmbdggdilbdaaaEpochCodes
namespace Go.Proofs.Ytnmbdggdilbdaaa
open Go Nice
set_option linter.unusedVariables false
set_option maxRecDepth 100000
theorem epochCodes_walk  (a0 : Int) (a1 : Int) (W : World) (w0 : (Lit.int .i64 a0).wf = true) (w1 : (Lit.int .i64 a1).wf = true)  :
    Calls Try.prog 12 #[.int .i64 a0, .int .i64 a1] W fun e w' => e = .returned (.bool true) ∧ RowKit.Below W.heap.size W w' := by
  have w0 := lt_of_wf w0
  have w1 := lt_of_wf w1
  refine law_walk  (law_all a0 a1) rfl rfl ?_ ?_
  · first | exact fun g ρ => .any _ | exact hG
  · intro i x hx
    match i, hx with
    | 0, hx => cases hx; exact ⟨.int .i64 a0, rfl, (.d _ _ (.val _ rfl))⟩
    | 1, hx => cases hx; exact ⟨.int .i64 a1, rfl, (.d _ _ (.val _ rfl))⟩
    | n + 2, hx => simp at hx
end Go.Proofs.Ytnmbdggdilbdaaa
