/- The law LinChecks. -/
import Derived.Test.YtdjphneoecebmaaLinChk
namespace Go.Proofs.Ytdjphneoecebmaa
open Go Nice
set_option linter.unusedVariables false
def ofA (x : (Sh.pair .int (.pair .int (.pair .bool (.pair .int (.pair .int .unit))))).T) : Nice.Act := ⟨x.1, x.2.1, x.2.2.1, x.2.2.2.1, x.2.2.2.2.1⟩
theorem actF_of (l : List (Sh.pair .int (.pair .int (.pair .bool (.pair .int (.pair .int .unit))))).T) (i c : Nat) (hi : i < l.length) (hc : c < 5) : (Sh.pair .int (.pair .int (.pair .bool (.pair .int (.pair .int .unit))))).cell l[i] c = actF (l.map ofA) i c := by
  unfold actF
  have e : (l.map ofA).getD i default = ofA l[i] := by simp [List.getD, hi]
  rw [e]
  match c, hc with
  | 0, _ => rfl
  | 1, _ => rfl
  | 2, _ => rfl
  | 3, _ => rfl
  | 4, _ => rfl
theorem linChecks_walk {H : Type} {enc : TypeId × Value → H} (a0 : Int) (a1 : Int) (v2 : Value) {b2 : Nat} {d2 : DataW H} {p2 : List MemPlace} {s2 : Nat → Bool} {e2 : Bool} {c2 : Nat} (W : World) (w0 : (Lit.int .i64 a0).wf = true) (w1 : (Lit.int .i64 a1).wf = true) (o2 : Value.okWide Try.prog W .any b2 22 v2) (k2 : DataW.Trod enc Try.prog W c2 s2 e2 22 v2 d2 p2)  :
    Calls Try.prog 4 #[.int .i64 a0, .int .i64 a1, v2] W fun e w' => e = .returned (.bool true) ∧ RowKit.Below W.heap.size W w' := by
  have w0 := lt_of_wf w0
  have w1 := lt_of_wf w1
  obtain ⟨l2, hl2, hv2⟩ := arg_slice (P := Try.prog) (t := 22) (b0 := b2) (.pair (.int) (.pair (.int) (.pair (.bool) (.pair (.int) (.pair (.int) (.unit)))))) (fit_slice Try.underlying22 (by kernel_rfl) (by decide) (fit_pair Try.underlying31 (by kernel_rfl) (fitF_pair rfl (by kernel_rfl) (fit_int Try.underlying3) (fitF_pair rfl (by kernel_rfl) (fit_int Try.underlying3) (fitF_pair rfl (by kernel_rfl) (fit_bool Try.underlying4) (fitF_pair rfl (by kernel_rfl) (fit_int Try.underlying3) (fitF_pair rfl (by kernel_rfl) (fit_int Try.underlying3) fitF_unit))))))) o2 k2
  refine law_walk  (linChecks_any a0 a1 (l2.map ofA) (by rw [List.length_map]; exact hl2.1)) rfl rfl ?_ ?_
  · first | exact fun g ρ => .any _ | exact hG
  · intro i x hx
    match i, hx with
    | 0, hx => cases hx; exact ⟨.int .i64 a0, rfl, (.d _ _ (.val _ rfl))⟩
    | 1, hx => cases hx; exact ⟨.int .i64 a1, rfl, (.d _ _ (.val _ rfl))⟩
    | 2, hx => cases hx; exact ⟨v2, rfl, (by rw [actsV, List.length_map]; exact VR.vec_congr (hv2 _) fun i c hi hc => by rw [List.getElem?_eq_getElem hi]; exact actF_of l2 i c hi hc)⟩
    | n + 3, hx => simp at hx
end Go.Proofs.Ytdjphneoecebmaa
