/- The law RollBuckets. -/
import Derived.Test.YtiedndnegmbkiaaDoorSmpArgs
import Derived.Test.YtiedndnegmbkiaaDoorBucketL
namespace Go.Proofs.YtiedndnegmbkiaaDoor
open Go Nice
set_option linter.unusedVariables false
set_option maxRecDepth 100000
theorem rollBuckets_walk {H : Type} {enc : TypeId × Value → H} (v0 : Value) {b0 : Nat} {d0 : DataW H} {p0 : List MemPlace} {s0 : Nat → Bool} {e0 : Bool} {c0 : Nat} (a1 : Int) (W : World) (o0 : Value.okWide Tryd.prog W .any b0 22 v0) (k0 : DataW.Trod enc Tryd.prog W c0 s0 e0 22 v0 d0 p0) (w1 : (Lit.int .i64 a1).wf = true) (hs : ClassesAt W) :
    Calls Tryd.prog 6 #[v0, .int .i64 a1] W fun e w' => e = .returned (.bool true) ∧ RowKit.Below W.heap.size W w' := by
  obtain ⟨l0, hl0, hv0⟩ := arg_slice (P := Tryd.prog) (t := 22) (b0 := b0) (.pair (.int) (.pair (.int) (.unit))) (fit_slice Tryd.underlying22 (by kernel_rfl) (by decide) (fit_pair Tryd.underlying49 (by kernel_rfl) (fitF_pair rfl (by kernel_rfl) (fit_int Tryd.underlying3) (fitF_pair rfl (by kernel_rfl) (fit_int Tryd.underlying3) fitF_unit)))) o0 k0
  have w1 := lt_of_wf w1
  have hG := classes_G hs
  refine law_walk  (lawRB_any (l0.map ofS) (smpIn_of l0 hl0) a1 w1) rfl rfl ?_ ?_
  · first | exact fun g ρ => .any _ | exact hG
  · intro i x hx
    match i, hx with
    | 0, hx => cases hx; exact ⟨v0, rfl, (by have := hv0 (fun _ => none); cases this with | d _ _ h => exact .d _ _ (smp_of l0 h))⟩
    | 1, hx => cases hx; exact ⟨.int .i64 a1, rfl, (.d _ _ (.val _ rfl))⟩
    | n + 2, hx => simp at hx
end Go.Proofs.YtiedndnegmbkiaaDoor
