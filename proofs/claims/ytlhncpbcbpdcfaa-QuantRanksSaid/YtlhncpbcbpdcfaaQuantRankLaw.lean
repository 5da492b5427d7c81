/- The law QuantRanks. -/
import Derived.Test.YtlhncpbcbpdcfaaQuantRank
namespace Go.Proofs.Ytlhncpbcbpdcfaa
open Go Nice
set_option linter.unusedVariables false
set_option maxRecDepth 100000
theorem quantRanks_walk {H : Type} {enc : TypeId × Value → H} (v0 : Value) {b0 : Nat} {d0 : DataW H} {p0 : List MemPlace} {s0 : Nat → Bool} {e0 : Bool} {c0 : Nat} (a1 : Int) (a2 : Int) (W : World) (o0 : Value.okWide Try.prog W .any b0 24 v0) (k0 : DataW.Trod enc Try.prog W c0 s0 e0 24 v0 d0 p0) (w1 : (Lit.int .i64 a1).wf = true) (w2 : (Lit.int .i64 a2).wf = true)  :
    Calls Try.prog 7 #[v0, .int .i64 a1, .int .i64 a2] W fun e w' => e = .returned (.bool true) ∧ RowKit.Below W.heap.size W w' := by
  obtain ⟨l0, hl0, hv0⟩ := arg_slice (P := Try.prog) (t := 24) (b0 := b0) (.int) (fit_slice Try.underlying24 (by kernel_rfl) (by decide) (fit_int Try.underlying3)) o0 k0
  have w1 := lt_of_wf w1
  have w2 := lt_of_wf w2
  refine law_walk  (lawRank_any l0 a1 a2 hl0.1) rfl rfl ?_ ?_
  · first | exact fun g ρ => .any _ | exact hG
  · intro i x hx
    match i, hx with
    | 0, hx => cases hx; exact ⟨v0, rfl, (VR.vec_congr (hv0 _) fun i c hi hc => by rw [List.getElem?_eq_getElem hi]; show _ = D.val (.int .i64 (l0.getD i 0)); rw [show l0.getD i 0 = l0[i] from by simp [List.getD, hi]]; rfl)⟩
    | 1, hx => cases hx; exact ⟨.int .i64 a1, rfl, (.d _ _ (.val _ rfl))⟩
    | 2, hx => cases hx; exact ⟨.int .i64 a2, rfl, (.d _ _ (.val _ rfl))⟩
    | n + 3, hx => simp at hx
end Go.Proofs.Ytlhncpbcbpdcfaa
