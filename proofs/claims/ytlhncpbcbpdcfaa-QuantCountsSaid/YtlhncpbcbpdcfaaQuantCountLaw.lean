/- The law QuantCounts. -/
import Derived.Test.YtlhncpbcbpdcfaaQuantCount
namespace Go.Proofs.Ytlhncpbcbpdcfaa
open Go Nice
set_option linter.unusedVariables false
set_option maxRecDepth 100000
theorem intsF_of (l : List (Sh.T .int)) (i c : Nat) (hi : i < l.length) (hc : c < 1) : Sh.int.cell l[i] c = intsF l i c := by
  have e : l.getD i 0 = l[i] := by simp [List.getD, hi]
  show D.val (.int .i64 _) = D.val (.int .i64 _)
  rw [e]
theorem quantCounts_walk {H : Type} {enc : TypeId × Value → H} (v0 : Value) {b0 : Nat} {d0 : DataW H} {p0 : List MemPlace} {s0 : Nat → Bool} {e0 : Bool} {c0 : Nat} (v1 : Value) {b1 : Nat} {d1 : DataW H} {p1 : List MemPlace} {s1 : Nat → Bool} {e1 : Bool} {c1 : Nat} (W : World) (o0 : Value.okWide Try.prog W .any b0 24 v0) (k0 : DataW.Trod enc Try.prog W c0 s0 e0 24 v0 d0 p0) (o1 : Value.okWide Try.prog W .any b1 24 v1) (k1 : DataW.Trod enc Try.prog W c1 s1 e1 24 v1 d1 p1) :
    Calls Try.prog 6 #[v0, v1] W fun e w' => e = .returned (.bool true) ∧ RowKit.Below W.heap.size W w' := by
  obtain ⟨l0, hl0, hv0⟩ := arg_slice (P := Try.prog) (t := 24) (b0 := b0) (.int) (fit_slice Try.underlying24 (by kernel_rfl) (by decide) (fit_int Try.underlying3)) o0 k0
  obtain ⟨l1, hl1, hv1⟩ := arg_slice (P := Try.prog) (t := 24) (b0 := b1) (.int) (fit_slice Try.underlying24 (by kernel_rfl) (by decide) (fit_int Try.underlying3)) o1 k1
  refine law_walk  (lawCounts_any l0 l1 hl0.1 hl1.1) rfl rfl ?_ ?_
  · first | exact fun g ρ => .any _ | exact hG
  · intro i x hx
    match i, hx with
    | 0, hx => cases hx; exact ⟨v0, rfl, (VR.vec_congr (hv0 _) fun i c hi hc => by rw [List.getElem?_eq_getElem hi]; exact intsF_of l0 i c hi hc)⟩
    | 1, hx => cases hx; exact ⟨v1, rfl, (VR.vec_congr (hv1 _) fun i c hi hc => by rw [List.getElem?_eq_getElem hi]; exact intsF_of l1 i c hi hc)⟩
    | n + 2, hx => simp at hx
end Go.Proofs.Ytlhncpbcbpdcfaa
