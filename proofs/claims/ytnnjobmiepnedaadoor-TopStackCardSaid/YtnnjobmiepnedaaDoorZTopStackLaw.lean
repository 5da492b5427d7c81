/- The law TopStack. -/
import Derived.Test.YtnnjobmiepnedaaDoorZShapesLaid
import Derived.Test.YtnnjobmiepnedaaDoorZByteT
import Derived.Test.YtnnjobmiepnedaaDoorZTopStackL
namespace Go.Proofs.YtnnjobmiepnedaaDoor
open Go Nice
set_option linter.unusedVariables false
set_option maxRecDepth 100000
theorem bools_of {M : Imm} (l : List (Sh.T .bool)) {v : Value} (h : DR M ((Sh.slice Sh.bool).cell l 0) v) : DR M (.vec 1 l.length (boolsF l)) v := by
  refine DR.vec_congr h fun i c hi hc => ?_
  rw [List.getElem?_eq_getElem hi]
  show D.val (.bool _) = D.val (.bool _)
  rw [show l.getD i false = l[i] from by simp [List.getD, hi]]
theorem topStack_walk {H : Type} {enc : TypeId × Value → H} (v0 : Value) {b0 : Nat} {d0 : DataW H} {p0 : List MemPlace} {s0 : Nat → Bool} {e0 : Bool} {c0 : Nat} (v1 : Value) {b1 : Nat} {d1 : DataW H} {p1 : List MemPlace} {s1 : Nat → Bool} {e1 : Bool} {c1 : Nat} (W : World) (o0 : Value.okWide Tryd.prog W .any b0 56 v0) (k0 : DataW.Trod enc Tryd.prog W c0 s0 e0 56 v0 d0 p0) (o1 : Value.okWide Tryd.prog W .any b1 22 v1) (k1 : DataW.Trod enc Tryd.prog W c1 s1 e1 22 v1 d1 p1) (z1 : ∀ a len cap, v1 = .slice a len cap → len * 1 ≤ 140737488351232) (hs : ShapesAt W) :
    Calls Tryd.prog 5 #[v0, v1] W fun e w' => e = .returned (.bool true) ∧ RowKit.Below W.heap.size W w' := by
  obtain ⟨l0, hl0, hv0⟩ := arg_slice (P := Tryd.prog) (t := 56) (b0 := b0) (.bool) (fit_slice Tryd.underlying56 (by kernel_rfl) (by decide) (fit_bool Tryd.underlying4)) o0 k0
  obtain ⟨l1, hl1, hv1⟩ := arg_slice (P := Tryd.prog) (t := 22) (b0 := b1) (.u8) (fit_slice Tryd.underlying22 (by kernel_rfl) (by decide) (fit_u8 Tryd.underlying5)) o1 k1
  have hG := shapes_G hs
  refine law_walk  (Spec.mono (topstack_any l0 hl0.1 (ofB l1) (bytes_sz l1 (dr_of (hv1 (fun _ => none))) z1) _ rfl) (fun _ _ h => h.1)) rfl rfl ?_ ?_
  · first | exact fun g ρ => .any _ | exact hG
  · intro i x hx
    match i, hx with
    | 0, hx => cases hx; exact ⟨v0, rfl, (.d _ _ (bools_of l0 (dr_of (hv0 (fun _ => none)))))⟩
    | 1, hx => cases hx; exact ⟨v1, rfl, (.d _ _ (bytes_val l1 (dr_of (hv1 (fun _ => none)))))⟩
    | n + 2, hx => simp at hx
end Go.Proofs.YtnnjobmiepnedaaDoor
