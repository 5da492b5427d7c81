/- The law RunMays. -/
import Derived.Test.YtdjphneoecebmaaDoorShapesLaid
import Derived.Test.YtdjphneoecebmaaDoorRunMay
namespace Go.Proofs.YtdjphneoecebmaaDoor
open Go Nice
set_option linter.unusedVariables false
set_option maxRecDepth 100000
theorem vec_imp {M : Imm} {k len : Nat} {f g : Nat → Nat → D} {v : Value} (h : DR M (.vec k len f) v) (e : ∀ i c u, i < len → c < k → DR M (f i c) u → DR M (g i c) u) : DR M (.vec k len g) v := by
  cases h with
  | vec0 => exact .vec0 _ _ _ _
  | vec _ _ _ b o cap cur T fz q hb hc hg hr => exact .vec _ _ _ b o cap cur T fz q hb hc hg fun i c hi hcc => e i c _ hi hcc (hr i c hi hcc)
def ofI (x : (Sh.pair .int (.pair .int (.pair .int (.pair .int (.pair .int .unit))))).T) : Nice.Ins := ⟨x.1, x.2.1, x.2.2.1, x.2.2.2.1, x.2.2.2.2.1⟩
def ofC (x : (Sh.pair .int (.pair (.slice .int) .unit)).T) : Nice.CallD := ⟨x.1, x.2.1⟩
theorem ints_of {M : Imm} (l : List (Sh.T .int)) {v : Value} (h : DR M ((Sh.slice Sh.int).cell l 0) v) : DR M (.vec 1 l.length (intsF l)) v := by
  refine DR.vec_congr h fun i c hi hc => ?_
  rw [List.getElem?_eq_getElem hi]
  show D.val (.int .i64 _) = D.val (.int .i64 _)
  rw [show l.getD i 0 = l[i] from by simp [List.getD, hi]]
theorem ins_of {M : Imm} (l : List (Sh.pair .int (.pair .int (.pair .int (.pair .int (.pair .int .unit))))).T) {v : Value} (h : DR M ((Sh.slice (Sh.pair .int (.pair .int (.pair .int (.pair .int (.pair .int .unit)))))).cell l 0) v) : DR M (.vec 5 (l.map ofI).length (insF (l.map ofI))) v := by
  rw [List.length_map]
  refine DR.vec_congr h fun i c hi hc => ?_
  rw [List.getElem?_eq_getElem hi]
  unfold insF
  have e : (l.map ofI).getD i default = ofI l[i] := by simp [List.getD, hi]
  rw [e]
  match c, hc with
  | 0, _ => rfl
  | 1, _ => rfl
  | 2, _ => rfl
  | 3, _ => rfl
  | 4, _ => rfl
theorem calls_of {M : Imm} (l : List (Sh.pair .int (.pair (.slice .int) .unit)).T) {v : Value} (h : DR M ((Sh.slice (Sh.pair .int (.pair (.slice .int) .unit))).cell l 0) v) : DR M (.vec 2 (l.map ofC).length (callF (l.map ofC))) v := by
  rw [List.length_map]
  refine vec_imp h fun i c u hi hc hu => ?_
  rw [List.getElem?_eq_getElem hi] at hu
  unfold callF
  have e : (l.map ofC).getD i default = ofC l[i] := by simp [List.getD, hi]
  rw [e]
  match c, hc with
  | 0, _ => exact hu
  | 1, _ => exact ints_of l[i].2.1 hu
theorem codes_of {M : Imm} (l : List (Sh.slice (Sh.pair .int (.pair .int (.pair .int (.pair .int (.pair .int .unit)))))).T) {v : Value} (h : DR M ((Sh.slice (Sh.slice (Sh.pair .int (.pair .int (.pair .int (.pair .int (.pair .int .unit))))))).cell l 0) v) : DR M (codesD (l.map (List.map ofI))) v := by
  unfold codesD
  rw [List.length_map]
  refine vec_imp h fun i c u hi hc hu => ?_
  rw [List.getElem?_eq_getElem hi] at hu
  have e : (l.map (List.map ofI)).getD i [] = l[i].map ofI := by simp [List.getD, hi]
  rw [e]
  exact ins_of l[i] hu
theorem thr_of {M : Imm} (l : List (Sh.slice (Sh.pair .int (.pair (.slice .int) .unit))).T) {v : Value} (h : DR M ((Sh.slice (Sh.slice (Sh.pair .int (.pair (.slice .int) .unit)))).cell l 0) v) : DR M (thrD (l.map (List.map ofC))) v := by
  unfold thrD
  rw [List.length_map]
  refine vec_imp h fun i c u hi hc hu => ?_
  rw [List.getElem?_eq_getElem hi] at hu
  have e : (l.map (List.map ofC)).getD i [] = l[i].map ofC := by simp [List.getD, hi]
  rw [e]
  exact calls_of l[i] hu
theorem mach_of {M : Imm} {ρ : Names} (a : (Sh.pair (.slice .int) (.pair (.slice (.slice (.pair .int (.pair .int (.pair .int (.pair .int (.pair .int .unit))))))) (.pair (.slice (.slice (.pair .int (.pair (.slice .int) .unit)))) .unit))).T) {v : Value} (h : VR M ρ (.agg ((List.range (Sh.pair (.slice .int) (.pair (.slice (.slice (.pair .int (.pair .int (.pair .int (.pair .int (.pair .int .unit))))))) (.pair (.slice (.slice (.pair .int (.pair (.slice .int) .unit)))) .unit))).k).map fun c => .d ((Sh.pair (.slice .int) (.pair (.slice (.slice (.pair .int (.pair .int (.pair .int (.pair .int (.pair .int .unit))))))) (.pair (.slice (.slice (.pair .int (.pair (.slice .int) .unit)))) .unit))).cell a c))) v) : VR M ρ (machS ⟨a.1, a.2.1.map (List.map ofI), a.2.2.1.map (List.map ofC)⟩) v := by
  obtain ⟨vs, rfl, hs, hr⟩ := agg_case h
  refine .aggOf _ _ hs fun i x hx => ?_
  match i, hx with
  | 0, hx =>
    cases hx
    obtain ⟨u, h1, h2⟩ := hr 0 _ rfl
    cases h2 with | d _ _ h2 => exact ⟨u, h1, .d _ _ (ints_of a.1 h2)⟩
  | 1, hx =>
    cases hx
    obtain ⟨u, h1, h2⟩ := hr 1 _ rfl
    cases h2 with | d _ _ h2 => exact ⟨u, h1, .d _ _ (codes_of a.2.1 h2)⟩
  | 2, hx =>
    cases hx
    obtain ⟨u, h1, h2⟩ := hr 2 _ rfl
    cases h2 with | d _ _ h2 => exact ⟨u, h1, .d _ _ (thr_of a.2.2.1 h2)⟩
  | n + 3, hx => simp at hx
theorem runMays_walk {H : Type} {enc : TypeId × Value → H} (v0 : Value) {b0 : Nat} {d0 : DataW H} {p0 : List MemPlace} {s0 : Nat → Bool} {e0 : Bool} {c0 : Nat} (W : World) (o0 : Value.okWide Tryd.prog W .any b0 33 v0) (k0 : DataW.Trod enc Tryd.prog W c0 s0 e0 33 v0 d0 p0) (hs : ShapesAt W) :
    Calls Tryd.prog 5 #[v0] W fun e w' => e = .returned (.bool true) ∧ RowKit.Below W.heap.size W w' := by
  obtain ⟨l0, hl0, hv0⟩ := arg_struct (P := Tryd.prog) (t := 33) (b0 := b0) (.pair (.slice (.int)) (.pair (.slice (.slice (.pair (.int) (.pair (.int) (.pair (.int) (.pair (.int) (.pair (.int) (.unit)))))))) (.pair (.slice (.slice (.pair (.int) (.pair (.slice (.int)) (.unit))))) (.unit)))) (fit_pair Tryd.underlying33 (by kernel_rfl) (fitF_pair rfl (by kernel_rfl) (fit_slice Tryd.underlying24 (by kernel_rfl) (by decide) (fit_int Tryd.underlying3)) (fitF_pair rfl (by kernel_rfl) (fit_slice Tryd.underlying30 (by kernel_rfl) (by decide) (fit_slice Tryd.underlying22 (by kernel_rfl) (by decide) (fit_pair Tryd.underlying42 (by kernel_rfl) (fitF_pair rfl (by kernel_rfl) (fit_int Tryd.underlying3) (fitF_pair rfl (by kernel_rfl) (fit_int Tryd.underlying3) (fitF_pair rfl (by kernel_rfl) (fit_int Tryd.underlying3) (fitF_pair rfl (by kernel_rfl) (fit_int Tryd.underlying3) (fitF_pair rfl (by kernel_rfl) (fit_int Tryd.underlying3) fitF_unit)))))))) (fitF_pair rfl (by kernel_rfl) (fit_slice Tryd.underlying31 (by kernel_rfl) (by decide) (fit_slice Tryd.underlying59 (by kernel_rfl) (by decide) (fit_pair Tryd.underlying61 (by kernel_rfl) (fitF_pair rfl (by kernel_rfl) (fit_int Tryd.underlying3) (fitF_pair rfl (by kernel_rfl) (fit_slice Tryd.underlying24 (by kernel_rfl) (by decide) (fit_int Tryd.underlying3)) fitF_unit))))) fitF_unit)))) Tryd.underlying33 o0 k0
  have hG := shapes_G hs
  let q : Nice.Mach := ⟨l0.1, l0.2.1.map (List.map ofI), l0.2.2.1.map (List.map ofC)⟩
  have hq : q.ok := by
    obtain ⟨⟨h1, _⟩, ⟨h2, h2'⟩, ⟨h3, h3'⟩, _⟩ := hl0
    refine ⟨h1, by show (List.map _ _).length ≤ _; rw [List.length_map]; exact h2, by show (List.map _ _).length ≤ _; rw [List.length_map]; exact h3, fun n => ?_, fun n => ?_⟩
    · show ((l0.2.1.map (List.map ofI)).getD n []).length ≤ _
      by_cases hn : n < l0.2.1.length
      · rw [show (l0.2.1.map (List.map ofI)).getD n [] = l0.2.1[n].map ofI from by simp [List.getD, hn], List.length_map]; exact (h2' _ (List.getElem_mem hn)).1
      · rw [show (l0.2.1.map (List.map ofI)).getD n [] = [] from by simp [List.getD, List.getElem?_eq_none (show l0.2.1.length ≤ n by omega)]]; simp
    · show ((l0.2.2.1.map (List.map ofC)).getD n []).length ≤ _
      by_cases hn : n < l0.2.2.1.length
      · rw [show (l0.2.2.1.map (List.map ofC)).getD n [] = l0.2.2.1[n].map ofC from by simp [List.getD, hn], List.length_map]; exact (h3' _ (List.getElem_mem hn)).1
      · rw [show (l0.2.2.1.map (List.map ofC)).getD n [] = [] from by simp [List.getD, List.getElem?_eq_none (show l0.2.2.1.length ≤ n by omega)]]; simp
  refine law_walk  (lawMach_any q hq) rfl rfl ?_ ?_
  · first | exact fun g ρ => .any _ | exact hG
  · intro i x hx
    match i, hx with
    | 0, hx => cases hx; exact ⟨v0, rfl, (mach_of l0 (hv0 _))⟩
    | n + 1, hx => simp at hx
end Go.Proofs.YtdjphneoecebmaaDoor
