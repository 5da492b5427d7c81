/- The law LinMays. -/
import Derived.Test.YtdjphneoecebmaaLinMay
namespace Go.Proofs.Ytdjphneoecebmaa
open Go Nice
set_option linter.unusedVariables false
def ofT (x : (Sh.pair .int (.pair .int (.pair .bool (.pair .int (.pair .int .unit))))).T) : Nice.Act := ⟨x.1, x.2.1, x.2.2.1, x.2.2.2.1, x.2.2.2.2.1⟩
theorem actF_of (l : List (Sh.pair .int (.pair .int (.pair .bool (.pair .int (.pair .int .unit))))).T) (i c : Nat) (hi : i < l.length) (hc : c < 5) :
    (Sh.pair .int (.pair .int (.pair .bool (.pair .int (.pair .int .unit))))).cell l[i] c = actF (l.map ofT) i c := by
  unfold actF
  have e : (l.map ofT).getD i default = ofT l[i] := by simp [List.getD, hi]
  rw [e]
  match c, hc with
  | 0, _ => rfl
  | 1, _ => rfl
  | 2, _ => rfl
  | 3, _ => rfl
  | 4, _ => rfl
theorem linMays_walk {H : Type} {enc : TypeId × Value → H} (a0 : Int) (v1 : Value) {b1 : Nat} {d1 : DataW H} {p1 : List MemPlace} {s1 : Nat → Bool} {e1 : Bool} {c1 : Nat} (W : World) (w0 : (Lit.int .i64 a0).wf = true) (o1 : Value.okWide Try.prog W .any b1 22 v1) (k1 : DataW.Trod enc Try.prog W c1 s1 e1 22 v1 d1 p1) :
    Calls Try.prog 3 #[.int .i64 a0, v1] W fun e w' => e = .returned (.bool true) ∧ RowKit.Below W.heap.size W w' := by
  have w0 := lt_of_wf w0
  obtain ⟨l1, hl1, hv1⟩ := arg_slice (P := Try.prog) (t := 22) (b0 := b1) (.pair (.int) (.pair (.int) (.pair (.bool) (.pair (.int) (.pair (.int) (.unit)))))) (fit_slice Try.underlying22 (by kernel_rfl) (by decide) (fit_pair Try.underlying31 (by kernel_rfl) (fitF_pair rfl (by kernel_rfl) (fit_int Try.underlying3) (fitF_pair rfl (by kernel_rfl) (fit_int Try.underlying3) (fitF_pair rfl (by kernel_rfl) (fit_bool Try.underlying4) (fitF_pair rfl (by kernel_rfl) (fit_int Try.underlying3) (fitF_pair rfl (by kernel_rfl) (fit_int Try.underlying3) fitF_unit))))))) o1 k1
  refine law_walk  (law_any a0 (l1.map ofT) (by rw [List.length_map]; exact hl1.1)) rfl rfl ?_ ?_
  · first | exact fun g ρ => .any _ | exact hG
  · intro i x hx
    match i, hx with
    | 0, hx => cases hx; exact ⟨_, rfl, (.d _ _ (.val _ rfl))⟩
    | 1, hx => cases hx; exact ⟨_, rfl, (by rw [actsV, List.length_map]; exact VR.vec_congr (hv1 _) fun i c hi hc => by rw [List.getElem?_eq_getElem hi]; exact actF_of l1 i c hi hc)⟩
    | n + 2, hx => simp at hx
end Go.Proofs.Ytdjphneoecebmaa
