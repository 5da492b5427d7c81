/- The law VmRuns. -/
import Derived.Test.YtdjphneoecebmaaDoorShapesLaid
import Derived.Test.YtdjphneoecebmaaDoorVmRunL
namespace Go.Proofs.YtdjphneoecebmaaDoor
open Go Nice
set_option linter.unusedVariables false
set_option maxRecDepth 100000
def ofI (x : (Sh.pair .int (.pair .int (.pair .int (.pair .int (.pair .int .unit))))).T) : Nice.Ins := ⟨x.1, x.2.1, x.2.2.1, x.2.2.2.1, x.2.2.2.2.1⟩
theorem ints_of {M : Imm} (l : List (Sh.T .int)) {v : Value} (h : DR M ((Sh.slice Sh.int).cell l 0) v) : DR M (.vec 1 l.length (intsF l)) v := by
  refine DR.vec_congr h fun i c hi hc => ?_
  rw [List.getElem?_eq_getElem hi]
  show D.val (.int .i64 _) = D.val (.int .i64 _)
  rw [show l.getD i 0 = l[i] from by simp [List.getD, hi]]
theorem ins_of {M : Imm} (l : List (Sh.pair .int (.pair .int (.pair .int (.pair .int (.pair .int .unit))))).T) {v : Value} (h : DR M ((Sh.slice (Sh.pair .int (.pair .int (.pair .int (.pair .int (.pair .int .unit)))))).cell l 0) v) : DR M (.vec 5 (l.map ofI).length (insF (l.map ofI))) v := by
  rw [List.length_map]
  refine DR.vec_congr h fun i c hi hc => ?_
  rw [List.getElem?_eq_getElem hi]
  unfold insF
  have e : (l.map ofI).getD i default = ofI l[i] := by simp [List.getD, hi]
  rw [e]
  match c, hc with
  | 0, _ => rfl
  | 1, _ => rfl
  | 2, _ => rfl
  | 3, _ => rfl
  | 4, _ => rfl
theorem ins_rng (l : List (Sh.pair .int (.pair .int (.pair .int (.pair .int (.pair .int .unit))))).T) (h : ∀ x, x ∈ l → (Sh.pair .int (.pair .int (.pair .int (.pair .int (.pair .int .unit))))).ok x) : CRng (l.map ofI) := by
  intro k
  by_cases hk : k < l.length
  · have e : (l.map ofI).getD k default = ofI l[k] := by simp [List.getD, hk]
    rw [e]; exact (h _ (List.getElem_mem hk)).2.2.1
  · have e : (l.map ofI).getD k default = default := by rw [List.getD_eq_getElem?_getD, List.getElem?_map, List.getElem?_eq_none (by omega)]; rfl
    rw [e]; exact zero_rng
theorem ints_rng (l : List (Sh.T .int)) (h : ∀ x, x ∈ l → Sh.int.ok x) (i : Nat) : inRange (l.getD i 0) := by
  by_cases hi : i < l.length
  · rw [show l.getD i 0 = l[i] from by simp [List.getD, hi]]; exact h _ (List.getElem_mem hi)
  · rw [show l.getD i 0 = 0 from by rw [List.getD_eq_getElem?_getD, List.getElem?_eq_none (by omega)]; rfl]; exact zero_rng
theorem vmRuns_walk {H : Type} {enc : TypeId × Value → H} (v0 : Value) {b0 : Nat} {d0 : DataW H} {p0 : List MemPlace} {s0 : Nat → Bool} {e0 : Bool} {c0 : Nat} (v1 : Value) {b1 : Nat} {d1 : DataW H} {p1 : List MemPlace} {s1 : Nat → Bool} {e1 : Bool} {c1 : Nat} (v2 : Value) {b2 : Nat} {d2 : DataW H} {p2 : List MemPlace} {s2 : Nat → Bool} {e2 : Bool} {c2 : Nat} (a3 : Int) (W : World) (o0 : Value.okWide Tryd.prog W .any b0 22 v0) (k0 : DataW.Trod enc Tryd.prog W c0 s0 e0 22 v0 d0 p0) (o1 : Value.okWide Tryd.prog W .any b1 24 v1) (k1 : DataW.Trod enc Tryd.prog W c1 s1 e1 24 v1 d1 p1) (o2 : Value.okWide Tryd.prog W .any b2 24 v2) (k2 : DataW.Trod enc Tryd.prog W c2 s2 e2 24 v2 d2 p2) (w3 : (Lit.int .i64 a3).wf = true) (hs : ShapesAt W) :
    Calls Tryd.prog 4 #[v0, v1, v2, .int .i64 a3] W fun e w' => e = .returned (.bool true) ∧ RowKit.Below W.heap.size W w' := by
  obtain ⟨l0, hl0, hv0⟩ := arg_slice (P := Tryd.prog) (t := 22) (b0 := b0) (.pair (.int) (.pair (.int) (.pair (.int) (.pair (.int) (.pair (.int) (.unit)))))) (fit_slice Tryd.underlying22 (by kernel_rfl) (by decide) (fit_pair Tryd.underlying42 (by kernel_rfl) (fitF_pair rfl (by kernel_rfl) (fit_int Tryd.underlying3) (fitF_pair rfl (by kernel_rfl) (fit_int Tryd.underlying3) (fitF_pair rfl (by kernel_rfl) (fit_int Tryd.underlying3) (fitF_pair rfl (by kernel_rfl) (fit_int Tryd.underlying3) (fitF_pair rfl (by kernel_rfl) (fit_int Tryd.underlying3) fitF_unit))))))) o0 k0
  obtain ⟨l1, hl1, hv1⟩ := arg_slice (P := Tryd.prog) (t := 24) (b0 := b1) (.int) (fit_slice Tryd.underlying24 (by kernel_rfl) (by decide) (fit_int Tryd.underlying3)) o1 k1
  obtain ⟨l2, hl2, hv2⟩ := arg_slice (P := Tryd.prog) (t := 24) (b0 := b2) (.int) (fit_slice Tryd.underlying24 (by kernel_rfl) (by decide) (fit_int Tryd.underlying3)) o2 k2
  have w3 := lt_of_wf w3
  have hG := shapes_G hs
  refine law_walk  (lawRun_any (l0.map ofI) l1 l2 a3 (by rw [List.length_map]; exact hl0.1) hl1.1 hl2.1 (ins_rng l0 hl0.2) (ints_rng l1 hl1.2) (ints_rng l2 hl2.2)) rfl rfl ?_ ?_
  · first | exact fun g ρ => .any _ | exact hG
  · intro i x hx
    match i, hx with
    | 0, hx => cases hx; exact ⟨v0, rfl, (by have := hv0 (fun _ => none); cases this with | d _ _ h => exact .d _ _ (ins_of l0 h))⟩
    | 1, hx => cases hx; exact ⟨v1, rfl, (by have := hv1 (fun _ => none); cases this with | d _ _ h => exact .d _ _ (ints_of l1 h))⟩
    | 2, hx => cases hx; exact ⟨v2, rfl, (by have := hv2 (fun _ => none); cases this with | d _ _ h => exact .d _ _ (ints_of l2 h))⟩
    | 3, hx => cases hx; exact ⟨.int .i64 a3, rfl, (.d _ _ (.val _ rfl))⟩
    | n + 4, hx => simp at hx
end Go.Proofs.YtdjphneoecebmaaDoor
