/- The law FileOpens. -/
import Derived.Test.YtempedbpieaggaaByteArg2
import Derived.Test.YtempedbpieaggaaFileL
namespace Go.Proofs.Ytempedbpieaggaa
open Go Nice
set_option linter.unusedVariables false
set_option maxRecDepth 100000
theorem fileOpens_walk {H : Type} {enc : TypeId × Value → H} (v0 : Value) {b0 : Nat} {d0 : DataW H} {p0 : List MemPlace} {s0 : Nat → Bool} {e0 : Bool} {c0 : Nat} (W : World) (o0 : Value.okWide Try.prog W .any b0 27 v0) (k0 : DataW.Trod enc Try.prog W c0 s0 e0 27 v0 d0 p0) (z0 : ∀ a len cap, v0 = .slice a len cap → len * 1 ≤ 140737488351232)  :
    Calls Try.prog 11 #[v0] W fun e w' => e = .returned (.bool true) ∧ RowKit.Below W.heap.size W w' := by
  obtain ⟨l0, hl0, hv0⟩ := arg_slice (P := Try.prog) (t := 27) (b0 := b0) (.u8) (fit_slice Try.underlying27 (by kernel_rfl) (by decide) (fit_u8 Try.underlying5)) o0 k0
  refine law_walk  (lawOpen_any (ofB l0) (bytes_sz l0 (dr_of (hv0 (fun _ => none))) z0)) rfl rfl ?_ ?_
  · first | exact fun g ρ => .any _ | exact hG
  · intro i x hx
    match i, hx with
    | 0, hx => cases hx; exact ⟨v0, rfl, (.d _ _ (bytes_val l0 (dr_of (hv0 (fun _ => none)))))⟩
    | n + 1, hx => simp at hx
end Go.Proofs.Ytempedbpieaggaa
