/- The law RunPlays. -/
import Derived.Test.YtdjphneoecebmaaDoorRunMayLaw
import Derived.Test.YtdjphneoecebmaaDoorPlayL
namespace Go.Proofs.YtdjphneoecebmaaDoor
open Go Nice
set_option linter.unusedVariables false
set_option maxRecDepth 100000
theorem ints_rng (l : List (Sh.T .int)) (h : ∀ x, x ∈ l → Sh.int.ok x) (i : Nat) : inRange (l.getD i 0) := by
  by_cases hi : i < l.length
  · rw [show l.getD i 0 = l[i] from by simp [List.getD, hi]]; exact h _ (List.getElem_mem hi)
  · rw [show l.getD i 0 = 0 from by rw [List.getD_eq_getElem?_getD, List.getElem?_eq_none (by omega)]; rfl]; exact zero_rng
theorem ins_rng (l : List (Sh.pair .int (.pair .int (.pair .int (.pair .int (.pair .int .unit))))).T) (h : ∀ x, x ∈ l → (Sh.pair .int (.pair .int (.pair .int (.pair .int (.pair .int .unit))))).ok x) : CRng (l.map ofI) := by
  intro k
  by_cases hk : k < l.length
  · have e : (l.map ofI).getD k default = ofI l[k] := by simp [List.getD, hk]
    rw [e]; exact (h _ (List.getElem_mem hk)).2.2.1
  · have e : (l.map ofI).getD k default = default := by rw [List.getD_eq_getElem?_getD, List.getElem?_map, List.getElem?_eq_none (by omega)]; rfl
    rw [e]; exact zero_rng
theorem mrng_of (a : (Sh.pair (.slice .int) (.pair (.slice (.slice (.pair .int (.pair .int (.pair .int (.pair .int (.pair .int .unit))))))) (.pair (.slice (.slice (.pair .int (.pair (.slice .int) .unit)))) .unit))).T) (h : (Sh.pair (.slice .int) (.pair (.slice (.slice (.pair .int (.pair .int (.pair .int (.pair .int (.pair .int .unit))))))) (.pair (.slice (.slice (.pair .int (.pair (.slice .int) .unit)))) .unit))).ok a) : Mrng ⟨a.1, a.2.1.map (List.map ofI), a.2.2.1.map (List.map ofC)⟩ := by
  obtain ⟨⟨h1, h1'⟩, ⟨h2, h2'⟩, ⟨h3, h3'⟩, _⟩ := h
  refine ⟨ints_rng a.1 h1', fun n => ?_, fun j n i => ?_⟩
  · show CRng ((a.2.1.map (List.map ofI)).getD n [])
    by_cases hn : n < a.2.1.length
    · rw [show (a.2.1.map (List.map ofI)).getD n [] = a.2.1[n].map ofI from by simp [List.getD, hn]]
      exact ins_rng _ (h2' _ (List.getElem_mem hn)).2
    · rw [show (a.2.1.map (List.map ofI)).getD n [] = [] from by simp [List.getD, List.getElem?_eq_none (show a.2.1.length ≤ n by omega)]]
      intro k; exact zero_rng
  · unfold callAt
    show inRange ((((a.2.2.1.map (List.map ofC)).getD j []).getD n.toNat default).args.getD i 0)
    by_cases hj : j < a.2.2.1.length
    · rw [show (a.2.2.1.map (List.map ofC)).getD j [] = a.2.2.1[j].map ofC from by simp [List.getD, hj]]
      by_cases hn : n.toNat < a.2.2.1[j].length
      · rw [show (a.2.2.1[j].map ofC).getD n.toNat default = ofC (a.2.2.1[j][n.toNat]) from by simp [List.getD, hn]]
        exact ints_rng _ ((h3' _ (List.getElem_mem hj)).2 _ (List.getElem_mem hn)).2.1.2 i
      · rw [show (a.2.2.1[j].map ofC).getD n.toNat default = default from by rw [List.getD_eq_getElem?_getD, List.getElem?_map, List.getElem?_eq_none (by omega)]; rfl]
        exact zero_rng
    · rw [show (a.2.2.1.map (List.map ofC)).getD j [] = [] from by simp [List.getD, List.getElem?_eq_none (show a.2.2.1.length ≤ j by omega)]]
      exact zero_rng
theorem runPlays_walk {H : Type} {enc : TypeId × Value → H} (v0 : Value) {b0 : Nat} {d0 : DataW H} {p0 : List MemPlace} {s0 : Nat → Bool} {e0 : Bool} {c0 : Nat} (v1 : Value) {b1 : Nat} {d1 : DataW H} {p1 : List MemPlace} {s1 : Nat → Bool} {e1 : Bool} {c1 : Nat} (W : World) (o0 : Value.okWide Tryd.prog W .any b0 33 v0) (k0 : DataW.Trod enc Tryd.prog W c0 s0 e0 33 v0 d0 p0) (o1 : Value.okWide Tryd.prog W .any b1 24 v1) (k1 : DataW.Trod enc Tryd.prog W c1 s1 e1 24 v1 d1 p1) (hs : ShapesAt W) :
    Calls Tryd.prog 6 #[v0, v1] W fun e w' => e = .returned (.bool true) ∧ RowKit.Below W.heap.size W w' := by
  obtain ⟨l0, hl0, hv0⟩ := arg_struct (P := Tryd.prog) (t := 33) (b0 := b0) (.pair (.slice (.int)) (.pair (.slice (.slice (.pair (.int) (.pair (.int) (.pair (.int) (.pair (.int) (.pair (.int) (.unit)))))))) (.pair (.slice (.slice (.pair (.int) (.pair (.slice (.int)) (.unit))))) (.unit)))) (fit_pair Tryd.underlying33 (by kernel_rfl) (fitF_pair rfl (by kernel_rfl) (fit_slice Tryd.underlying24 (by kernel_rfl) (by decide) (fit_int Tryd.underlying3)) (fitF_pair rfl (by kernel_rfl) (fit_slice Tryd.underlying30 (by kernel_rfl) (by decide) (fit_slice Tryd.underlying22 (by kernel_rfl) (by decide) (fit_pair Tryd.underlying42 (by kernel_rfl) (fitF_pair rfl (by kernel_rfl) (fit_int Tryd.underlying3) (fitF_pair rfl (by kernel_rfl) (fit_int Tryd.underlying3) (fitF_pair rfl (by kernel_rfl) (fit_int Tryd.underlying3) (fitF_pair rfl (by kernel_rfl) (fit_int Tryd.underlying3) (fitF_pair rfl (by kernel_rfl) (fit_int Tryd.underlying3) fitF_unit)))))))) (fitF_pair rfl (by kernel_rfl) (fit_slice Tryd.underlying31 (by kernel_rfl) (by decide) (fit_slice Tryd.underlying59 (by kernel_rfl) (by decide) (fit_pair Tryd.underlying61 (by kernel_rfl) (fitF_pair rfl (by kernel_rfl) (fit_int Tryd.underlying3) (fitF_pair rfl (by kernel_rfl) (fit_slice Tryd.underlying24 (by kernel_rfl) (by decide) (fit_int Tryd.underlying3)) fitF_unit))))) fitF_unit)))) Tryd.underlying33 o0 k0
  obtain ⟨l1, hl1, hv1⟩ := arg_slice (P := Tryd.prog) (t := 24) (b0 := b1) (.int) (fit_slice Tryd.underlying24 (by kernel_rfl) (by decide) (fit_int Tryd.underlying3)) o1 k1
  have hG := shapes_G hs
  let q : Nice.Mach := ⟨l0.1, l0.2.1.map (List.map ofI), l0.2.2.1.map (List.map ofC)⟩
  have hq : q.ok := by
    obtain ⟨⟨h1, _⟩, ⟨h2, h2'⟩, ⟨h3, h3'⟩, _⟩ := hl0
    refine ⟨h1, by show (List.map _ _).length ≤ _; rw [List.length_map]; exact h2, by show (List.map _ _).length ≤ _; rw [List.length_map]; exact h3, fun n => ?_, fun n => ?_⟩
    · show ((l0.2.1.map (List.map ofI)).getD n []).length ≤ _
      by_cases hn : n < l0.2.1.length
      · rw [show (l0.2.1.map (List.map ofI)).getD n [] = l0.2.1[n].map ofI from by simp [List.getD, hn], List.length_map]; exact (h2' _ (List.getElem_mem hn)).1
      · rw [show (l0.2.1.map (List.map ofI)).getD n [] = [] from by simp [List.getD, List.getElem?_eq_none (show l0.2.1.length ≤ n by omega)]]; simp
    · show ((l0.2.2.1.map (List.map ofC)).getD n []).length ≤ _
      by_cases hn : n < l0.2.2.1.length
      · rw [show (l0.2.2.1.map (List.map ofC)).getD n [] = l0.2.2.1[n].map ofC from by simp [List.getD, hn], List.length_map]; exact (h3' _ (List.getElem_mem hn)).1
      · rw [show (l0.2.2.1.map (List.map ofC)).getD n [] = [] from by simp [List.getD, List.getElem?_eq_none (show l0.2.2.1.length ≤ n by omega)]]; simp
  refine law_walk  (lawPlay_any q hq (mrng_of l0 hl0) l1 hl1.1) rfl rfl ?_ ?_
  · first | exact fun g ρ => .any _ | exact hG
  · intro i x hx
    match i, hx with
    | 0, hx => cases hx; exact ⟨v0, rfl, (mach_of l0 (hv0 _))⟩
    | 1, hx => cases hx; exact ⟨v1, rfl, (by have := hv1 (fun _ => none); cases this with | d _ _ h => exact .d _ _ (ints_of l1 h))⟩
    | n + 2, hx => simp at hx
end Go.Proofs.YtdjphneoecebmaaDoor
