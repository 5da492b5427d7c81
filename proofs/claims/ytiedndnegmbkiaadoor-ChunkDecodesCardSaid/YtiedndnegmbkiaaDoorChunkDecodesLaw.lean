/- The law ChunkDecodes. -/
import Derived.Test.YtiedndnegmbkiaaDoorByteArgs
import Derived.Test.YtiedndnegmbkiaaDoorChunkLawD
namespace Go.Proofs.YtiedndnegmbkiaaDoor
open Go Nice
set_option linter.unusedVariables false
set_option maxRecDepth 100000
theorem chunkDecodes_walk {H : Type} {enc : TypeId × Value → H} (v0 : Value) {b0 : Nat} {d0 : DataW H} {p0 : List MemPlace} {s0 : Nat → Bool} {e0 : Bool} {c0 : Nat} (W : World) (o0 : Value.okWide Tryd.prog W .any b0 23 v0) (k0 : DataW.Trod enc Tryd.prog W c0 s0 e0 23 v0 d0 p0) (z0 : ∀ a len cap, v0 = .slice a len cap → len * 1 ≤ 140737488351232) (hs : ClassesAt W) :
    Calls Tryd.prog 4 #[v0] W fun e w' => e = .returned (.bool true) ∧ RowKit.Below W.heap.size W w' := by
  obtain ⟨l0, hl0, hv0⟩ := arg_slice (P := Tryd.prog) (t := 23) (b0 := b0) (.u8) (fit_slice Tryd.underlying23 (by kernel_rfl) (by decide) (fit_u8 Tryd.underlying5)) o0 k0
  have hG := classes_G hs
  refine law_walk  (lawD_any (ofB l0) (bytes_sz l0 (dr_of (hv0 (fun _ => none))) z0)) rfl rfl ?_ ?_
  · first | exact fun g ρ => .any _ | exact hG
  · intro i x hx
    match i, hx with
    | 0, hx => cases hx; exact ⟨v0, rfl, (.d _ _ (bytes_val l0 (dr_of (hv0 (fun _ => none)))))⟩
    | n + 1, hx => simp at hx
end Go.Proofs.YtiedndnegmbkiaaDoor
