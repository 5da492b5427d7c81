/- The law TagsSelects. -/
import Derived.Test.YtlhncpbcbpdcfaaTagArgs
import Derived.Test.YtlhncpbcbpdcfaaTagSelR
namespace Go.Proofs.Ytlhncpbcbpdcfaa
open Go Nice
set_option linter.unusedVariables false
set_option maxRecDepth 100000
def ofMat (x : (Sh.pair .int (.pair (Sh.pair .str (.pair .str .unit)) .unit)).T) : Nice.MatD := ⟨x.1, x.2.1.1, x.2.1.2.1⟩
theorem mats_of {M : Imm} {ρ : Names} (l : List (Sh.pair .int (.pair (Sh.pair .str (.pair .str .unit)) .unit)).T) {v : Value} (h : VR M ρ (.d ((Sh.slice (Sh.pair .int (.pair (Sh.pair .str (.pair .str .unit)) .unit))).cell l 0)) v) : VR M ρ (matsV (l.map ofMat)) v := by
  unfold matsV
  rw [List.length_map]
  refine VR.vec_congr h fun i c hi hc => ?_
  rw [List.getElem?_eq_getElem hi]
  unfold matF
  have e : (l.map ofMat).getD i default = ofMat l[i] := by simp [List.getD, hi]
  rw [e]
  match c, hc with
  | 0, _ => rfl
  | 1, _ => rfl
  | 2, _ => rfl
theorem matsIn_of (l : List (Sh.pair .int (.pair (Sh.pair .str (.pair .str .unit)) .unit)).T) (h : l.length ≤ 9223372036854775807 ∧ ∀ x, x ∈ l → (Sh.pair .int (.pair (Sh.pair .str (.pair .str .unit)) .unit)).ok x) : MatsIn (l.map ofMat) := by
  obtain ⟨h1, h2⟩ := h
  have hk : ∀ i, ((l.map ofMat).getD i default).key.size ≤ 9223372036854775807 ∧ ((l.map ofMat).getD i default).val.size ≤ 9223372036854775807 := by
    intro i
    by_cases hi : i < l.length
    · have e : (l.map ofMat).getD i default = ofMat l[i] := by simp [List.getD, hi]
      rw [e]
      have := h2 _ (List.getElem_mem hi)
      exact ⟨this.2.1.1, this.2.1.2.1⟩
    · have e : (l.map ofMat).getD i default = default := by rw [List.getD_eq_getElem?_getD, List.getElem?_map, List.getElem?_eq_none (by omega)]; rfl
      rw [e]
      exact ⟨by decide, by decide⟩
  exact ⟨by rw [List.length_map]; exact h1, fun i => (hk i).1, fun i => (hk i).2⟩
theorem tagsSelects_walk {H : Type} {enc : TypeId × Value → H} (v0 : Value) {b0 : Nat} {d0 : DataW H} {p0 : List MemPlace} {s0 : Nat → Bool} {e0 : Bool} {c0 : Nat} (v1 : Value) {b1 : Nat} {d1 : DataW H} {p1 : List MemPlace} {s1 : Nat → Bool} {e1 : Bool} {c1 : Nat} (W : World) (o0 : Value.okWide Try.prog W .any b0 34 v0) (k0 : DataW.Trod enc Try.prog W c0 s0 e0 34 v0 d0 p0) (o1 : Value.okWide Try.prog W .any b1 36 v1) (k1 : DataW.Trod enc Try.prog W c1 s1 e1 36 v1 d1 p1)  :
    Calls Try.prog 9 #[v0, v1] W fun e w' => e = .returned (.bool true) ∧ RowKit.Below W.heap.size W w' := by
  obtain ⟨l0, hl0, hv0⟩ := arg_slice (P := Try.prog) (t := 34) (b0 := b0) (.slice (.pair (.str) (.pair (.str) (.unit)))) (fit_slice Try.underlying34 (by kernel_rfl) (by decide) (fit_slice Try.underlying56 (by kernel_rfl) (by decide) (fit_pair Try.underlying58 (by kernel_rfl) (fitF_pair rfl (by kernel_rfl) (fit_str Try.underlying9) (fitF_pair rfl (by kernel_rfl) (fit_str Try.underlying9) fitF_unit))))) o0 k0
  obtain ⟨l1, hl1, hv1⟩ := arg_slice (P := Try.prog) (t := 36) (b0 := b1) (.pair (.int) (.pair (.pair (.str) (.pair (.str) (.unit))) (.unit))) (fit_slice Try.underlying36 (by kernel_rfl) (by decide) (fit_pair Try.underlying67 (by kernel_rfl) (fitF_pair rfl (by kernel_rfl) (fit_int Try.underlying3) (fitF_pair rfl (by kernel_rfl) (fit_pair Try.underlying58 (by kernel_rfl) (fitF_pair rfl (by kernel_rfl) (fit_str Try.underlying9) (fitF_pair rfl (by kernel_rfl) (fit_str Try.underlying9) fitF_unit))) fitF_unit)))) o1 k1
  refine law_walk  (lawSelect_any (l0.map (List.map ofTag)) (l1.map ofMat) (tagsIn_of l0 hl0) (matsIn_of l1 hl1)) rfl rfl ?_ ?_
  · first | exact fun g ρ => .any _ | exact hG
  · intro i x hx
    match i, hx with
    | 0, hx => cases hx; exact ⟨v0, rfl, (by have := hv0 (fun _ => none); cases this with | d _ _ h => exact .d _ _ (series_of l0 h))⟩
    | 1, hx => cases hx; exact ⟨v1, rfl, (mats_of l1 (hv1 _))⟩
    | n + 2, hx => simp at hx
end Go.Proofs.Ytlhncpbcbpdcfaa
