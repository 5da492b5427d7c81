/- The law RollJoins. -/
import Derived.Test.YtiedndnegmbkiaaRollJ
namespace Go.Proofs.Ytiedndnegmbkiaa
open Go Nice
set_option linter.unusedVariables false
set_option maxRecDepth 100000
theorem rollJoins_walk {H : Type} {enc : TypeId × Value → H} (v0 : Value) {b0 : Nat} {d0 : DataW H} {p0 : List MemPlace} {s0 : Nat → Bool} {e0 : Bool} {c0 : Nat} (v1 : Value) {b1 : Nat} {d1 : DataW H} {p1 : List MemPlace} {s1 : Nat → Bool} {e1 : Bool} {c1 : Nat} (W : World) (o0 : Value.okWide Try.prog W .any b0 23 v0) (k0 : DataW.Trod enc Try.prog W c0 s0 e0 23 v0 d0 p0) (o1 : Value.okWide Try.prog W .any b1 23 v1) (k1 : DataW.Trod enc Try.prog W c1 s1 e1 23 v1 d1 p1) :
    Calls Try.prog 3 #[v0, v1] W fun e w' => e = .returned (.bool true) ∧ RowKit.Below W.heap.size W w' := by
  obtain ⟨l0, hl0, hv0⟩ := arg_struct (P := Try.prog) (t := 23) (b0 := b0) (.pair (.int) (.pair (.int) (.pair (.int) (.pair (.int) (.unit))))) (fit_pair Try.underlying23 (by kernel_rfl) (fitF_pair rfl (by kernel_rfl) (fit_int Try.underlying3) (fitF_pair rfl (by kernel_rfl) (fit_int Try.underlying3) (fitF_pair rfl (by kernel_rfl) (fit_int Try.underlying3) (fitF_pair rfl (by kernel_rfl) (fit_int Try.underlying3) fitF_unit))))) Try.underlying23 o0 k0
  obtain ⟨l1, hl1, hv1⟩ := arg_struct (P := Try.prog) (t := 23) (b0 := b1) (.pair (.int) (.pair (.int) (.pair (.int) (.pair (.int) (.unit))))) (fit_pair Try.underlying23 (by kernel_rfl) (fitF_pair rfl (by kernel_rfl) (fit_int Try.underlying3) (fitF_pair rfl (by kernel_rfl) (fit_int Try.underlying3) (fitF_pair rfl (by kernel_rfl) (fit_int Try.underlying3) (fitF_pair rfl (by kernel_rfl) (fit_int Try.underlying3) fitF_unit))))) Try.underlying23 o1 k1
  refine law_walk  (law_any ⟨l0.1, l0.2.1, l0.2.2.1, l0.2.2.2.1⟩ ⟨l1.1, l1.2.1, l1.2.2.1, l1.2.2.2.1⟩) rfl rfl ?_ ?_
  · first | exact fun g ρ => .any _ | exact hG
  · intro i x hx
    match i, hx with
    | 0, hx => cases hx; exact ⟨v0, rfl, (hv0 _)⟩
    | 1, hx => cases hx; exact ⟨v1, rfl, (hv1 _)⟩
    | n + 2, hx => simp at hx
end Go.Proofs.Ytiedndnegmbkiaa
