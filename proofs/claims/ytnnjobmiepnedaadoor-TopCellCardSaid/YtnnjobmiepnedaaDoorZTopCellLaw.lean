/- The law TopCell. -/
import Derived.Test.YtnnjobmiepnedaaDoorZShapesLaid
import Derived.Test.YtnnjobmiepnedaaDoorZByteT
import Derived.Test.YtnnjobmiepnedaaDoorZTopCellL
namespace Go.Proofs.YtnnjobmiepnedaaDoor
open Go Nice
set_option linter.unusedVariables false
set_option maxRecDepth 100000
theorem shapesAt_cell {W : World} (h : laidMetH Tryd.prog [("math/bits.deBruijn32tab", Rows.laid_math_bits_deBruijn32tab), ("math/bits.deBruijn64tab", Rows.laid_math_bits_deBruijn64tab), ("internal/strconv.uint64pow10", Rows.laid_internal_strconv_uint64pow10), ("barograph/vm.shapes", Rows.laid_barograph_vm_shapes)] W) : ShapesAt W := by
  have h' : laidMet Tryd.prog [("math/bits.deBruijn32tab", Rows.laid_math_bits_deBruijn32tab), ("math/bits.deBruijn64tab", Rows.laid_math_bits_deBruijn64tab), ("internal/strconv.uint64pow10", Rows.laid_internal_strconv_uint64pow10), ("barograph/vm.shapes", Rows.laid_barograph_vm_shapes)] W := h
  obtain ⟨ps, h1, _⟩ := h'
  obtain ⟨_, h1⟩ := laid_later h1
  obtain ⟨_, h1⟩ := laid_later h1
  obtain ⟨_, h1⟩ := laid_later h1
  exact shapes_core h1
theorem topCell_walk {H : Type} {enc : TypeId × Value → H} (v0 : Value) {b0 : Nat} {d0 : DataW H} {p0 : List MemPlace} {s0 : Nat → Bool} {e0 : Bool} {c0 : Nat} (W : World) (o0 : Value.okWide Tryd.prog W .any b0 22 v0) (k0 : DataW.Trod enc Tryd.prog W c0 s0 e0 22 v0 d0 p0) (z0 : ∀ a len cap, v0 = .slice a len cap → len * 1 ≤ 140737488351232) (hs : ShapesAt W) :
    Calls Tryd.prog 6 #[v0] W fun e w' => e = .returned (.bool true) ∧ RowKit.Below W.heap.size W w' := by
  obtain ⟨l0, hl0, hv0⟩ := arg_slice (P := Tryd.prog) (t := 22) (b0 := b0) (.u8) (fit_slice Tryd.underlying22 (by kernel_rfl) (by decide) (fit_u8 Tryd.underlying5)) o0 k0
  have hG := shapes_G hs
  refine law_walk  (Spec.mono (topcell_any (ofB l0) (bytes_sz l0 (dr_of (hv0 (fun _ => none))) z0) _ rfl) (fun _ _ h => h.1)) rfl rfl ?_ ?_
  · first | exact fun g ρ => .any _ | exact hG
  · intro i x hx
    match i, hx with
    | 0, hx => cases hx; exact ⟨v0, rfl, (.d _ _ (bytes_val l0 (dr_of (hv0 (fun _ => none)))))⟩
    | n + 1, hx => simp at hx
end Go.Proofs.YtnnjobmiepnedaaDoor
