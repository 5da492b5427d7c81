/- The law TagsValues. -/
import Derived.Test.YtlhncpbcbpdcfaaTagArgs
import Derived.Test.YtlhncpbcbpdcfaaTagValW
namespace Go.Proofs.Ytlhncpbcbpdcfaa
open Go Nice
set_option linter.unusedVariables false
set_option maxRecDepth 100000
theorem tagsValues_walk {H : Type} {enc : TypeId × Value → H} (v0 : Value) {b0 : Nat} {d0 : DataW H} {p0 : List MemPlace} {s0 : Nat → Bool} {e0 : Bool} {c0 : Nat} (a1 : ByteArray) (W : World) (o0 : Value.okWide Try.prog W .any b0 34 v0) (k0 : DataW.Trod enc Try.prog W c0 s0 e0 34 v0 d0 p0) (w1 : a1.size ≤ maxLen)  :
    Calls Try.prog 10 #[v0, .string a1] W fun e w' => e = .returned (.bool true) ∧ RowKit.Below W.heap.size W w' := by
  obtain ⟨l0, hl0, hv0⟩ := arg_slice (P := Try.prog) (t := 34) (b0 := b0) (.slice (.pair (.str) (.pair (.str) (.unit)))) (fit_slice Try.underlying34 (by kernel_rfl) (by decide) (fit_slice Try.underlying56 (by kernel_rfl) (by decide) (fit_pair Try.underlying58 (by kernel_rfl) (fitF_pair rfl (by kernel_rfl) (fit_str Try.underlying9) (fitF_pair rfl (by kernel_rfl) (fit_str Try.underlying9) fitF_unit))))) o0 k0
  refine law_walk  (lawValues_any (l0.map (List.map ofTag)) a1 (tagsIn_of l0 hl0) w1) rfl rfl ?_ ?_
  · first | exact fun g ρ => .any _ | exact hG
  · intro i x hx
    match i, hx with
    | 0, hx => cases hx; exact ⟨v0, rfl, (by have := hv0 (fun _ => none); cases this with | d _ _ h => exact .d _ _ (series_of l0 h))⟩
    | 1, hx => cases hx; exact ⟨.string a1, rfl, (.d _ _ (.val _ rfl))⟩
    | n + 2, hx => simp at hx
end Go.Proofs.Ytlhncpbcbpdcfaa
