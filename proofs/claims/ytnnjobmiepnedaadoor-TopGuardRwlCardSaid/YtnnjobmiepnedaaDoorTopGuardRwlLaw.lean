/- The law TopGuardRwl. -/
import Derived.Test.YtnnjobmiepnedaaDoorShapesLaid
import Derived.Test.YtnnjobmiepnedaaDoorByteT
import Derived.Test.YtnnjobmiepnedaaDoorTopGuardL
namespace Go.Proofs.YtnnjobmiepnedaaDoor
open Go Nice
set_option linter.unusedVariables false
set_option maxRecDepth 100000
theorem topGuardRwl_walk {H : Type} {enc : TypeId × Value → H} (a0 : Int) (v1 : Value) {b1 : Nat} {d1 : DataW H} {p1 : List MemPlace} {s1 : Nat → Bool} {e1 : Bool} {c1 : Nat} (W : World) (w0 : (Lit.int .i64 a0).wf = true) (o1 : Value.okWide Tryd.prog W .any b1 22 v1) (k1 : DataW.Trod enc Tryd.prog W c1 s1 e1 22 v1 d1 p1) (z1 : ∀ a len cap, v1 = .slice a len cap → len * 1 ≤ 140737488351232) (hs : ShapesAt W) :
    Calls Tryd.prog 3 #[.int .i64 a0, v1] W fun e w' => e = .returned (.bool true) ∧ RowKit.Below W.heap.size W w' := by
  have w0 := lt_of_wf w0
  obtain ⟨l1, hl1, hv1⟩ := arg_slice (P := Tryd.prog) (t := 22) (b0 := b1) (.u8) (fit_slice Tryd.underlying22 (by kernel_rfl) (by decide) (fit_u8 Tryd.underlying5)) o1 k1
  have hG := shapes_G hs
  refine law_walk  (Spec.mono (topguard_any a0 (ofB l1) (bytes_sz l1 (dr_of (hv1 (fun _ => none))) z1)) (fun _ _ h => h.1)) rfl rfl ?_ ?_
  · first | exact fun g ρ => .any _ | exact hG
  · intro i x hx
    match i, hx with
    | 0, hx => cases hx; exact ⟨.int .i64 a0, rfl, (.d _ _ (.val _ rfl))⟩
    | 1, hx => cases hx; exact ⟨v1, rfl, (.d _ _ (bytes_val l1 (dr_of (hv1 (fun _ => none)))))⟩
    | n + 2, hx => simp at hx
end Go.Proofs.YtnnjobmiepnedaaDoor
