/- The law VmMays. -/
import Derived.Test.YtdjphneoecebmaaDoorShapesLaid
namespace Go.Proofs.YtdjphneoecebmaaDoor
open Go Nice
set_option linter.unusedVariables false
set_option maxRecDepth 100000
def ofT (x : (Sh.pair .int (.pair .int (.pair .int (.pair .int (.pair .int .unit))))).T) : Nice.Ins := ⟨x.1, x.2.1, x.2.2.1, x.2.2.2.1, x.2.2.2.2.1⟩
theorem insF_of (l : List (Sh.pair .int (.pair .int (.pair .int (.pair .int (.pair .int .unit))))).T) (i c : Nat) (hi : i < l.length) (hc : c < 5) : (Sh.pair .int (.pair .int (.pair .int (.pair .int (.pair .int .unit))))).cell l[i] c = insF (l.map ofT) i c := by
  unfold insF
  have e : (l.map ofT).getD i default = ofT l[i] := by simp [List.getD, hi]
  rw [e]
  match c, hc with
  | 0, _ => rfl
  | 1, _ => rfl
  | 2, _ => rfl
  | 3, _ => rfl
  | 4, _ => rfl
theorem vmMays_walk {H : Type} {enc : TypeId × Value → H} (v0 : Value) {b0 : Nat} {d0 : DataW H} {p0 : List MemPlace} {s0 : Nat → Bool} {e0 : Bool} {c0 : Nat} (W : World) (o0 : Value.okWide Tryd.prog W .any b0 22 v0) (k0 : DataW.Trod enc Tryd.prog W c0 s0 e0 22 v0 d0 p0) (hs : ShapesAt W) :
    Calls Tryd.prog 3 #[v0] W fun e w' => e = .returned (.bool true) ∧ RowKit.Below W.heap.size W w' := by
  obtain ⟨l0, hl0, hv0⟩ := arg_slice (P := Tryd.prog) (t := 22) (b0 := b0) (.pair (.int) (.pair (.int) (.pair (.int) (.pair (.int) (.pair (.int) (.unit)))))) (fit_slice Tryd.underlying22 (by kernel_rfl) (by decide) (fit_pair Tryd.underlying42 (by kernel_rfl) (fitF_pair rfl (by kernel_rfl) (fit_int Tryd.underlying3) (fitF_pair rfl (by kernel_rfl) (fit_int Tryd.underlying3) (fitF_pair rfl (by kernel_rfl) (fit_int Tryd.underlying3) (fitF_pair rfl (by kernel_rfl) (fit_int Tryd.underlying3) (fitF_pair rfl (by kernel_rfl) (fit_int Tryd.underlying3) fitF_unit))))))) o0 k0
  have hG := shapes_G hs
  refine law_walk  (law_any (l0.map ofT) (by rw [List.length_map]; exact hl0.1)) rfl rfl ?_ ?_
  · first | exact fun g ρ => .any _ | exact hG
  · intro i x hx
    match i, hx with
    | 0, hx => cases hx; exact ⟨v0, rfl, (by rw [insV, List.length_map]; exact VR.vec_congr (hv0 _) fun i c hi hc => by rw [List.getElem?_eq_getElem hi]; exact insF_of l0 i c hi hc)⟩
    | n + 1, hx => simp at hx
end Go.Proofs.YtdjphneoecebmaaDoor
