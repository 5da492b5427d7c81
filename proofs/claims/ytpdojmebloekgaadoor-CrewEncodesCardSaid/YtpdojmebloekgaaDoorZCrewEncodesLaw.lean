/- The law CrewEncodes. -/
import Derived.Test.YtpdojmebloekgaaDoorZCrewArgs
namespace Go.Proofs.YtpdojmebloekgaaDoor
open Go Nice Nice.Co Go.Conc
set_option linter.unusedVariables false
set_option maxRecDepth 100000
theorem crewEncodes_walk {H : Type} {enc : TypeId × Value → H} (v0 : Value) {b0 : Nat} {d0 : DataW H} {p0 : List MemPlace} {s0 : Nat → Bool} {e0 : Bool} {c0 : Nat} (W : World) (o0 : Value.okWide Tryd.prog W .any b0 22 v0) (k0 : DataW.Trod enc Tryd.prog W c0 s0 e0 22 v0 d0 p0) (hs : ClassesAt W) :
    ∃ M last o w' t', runNT Tryd.prog (M + 1) (solo (G (Frame.enter Tryd.prog 3 #[v0] .normal) []) W) #[] = (.ended o w', t') ∧ runN Tryd.prog M (solo (G (Frame.enter Tryd.prog 3 #[v0] .normal) []) W) = .next last ∧
      Go.step Tryd.prog last = .ended o w' ∧ Conc.Good Tryd.prog (fun v W' => v = .bool true ∧ RowKit.Below W.heap.size W W') last o w' t' := by
  obtain ⟨l0, hl0, hv0⟩ := arg_slice (P := Tryd.prog) (t := 22) (b0 := b0) (.slice (.pair (.int) (.pair (.int) (.unit)))) (fit_slice Tryd.underlying22 (by kernel_rfl) (by decide) (fit_slice Tryd.underlying38 (by kernel_rfl) (by decide) (fit_pair Tryd.underlying67 (by kernel_rfl) (fitF_pair rfl (by kernel_rfl) (fit_int Tryd.underlying3) (fitF_pair rfl (by kernel_rfl) (fit_int Tryd.underlying3) fitF_unit))))) o0 k0
  have hG := classes_G hs
  refine lawX_run (v := .bool true) Tryd.func3 rfl rfl (by kernel_rfl) rfl ?_ ?_ (fun Pst => lawCE Pst _ (l0.map (List.map ofS)) (smpsIn_of l0 hl0.2))
  · first | exact fun g ρ => .any _ | exact hG
  · intro i x hx
    match i, hx with
    | 0, hx => cases hx; exact ⟨v0, rfl, (.d _ _ (smps_of l0 (dr_of' (hv0 (fun _ => none)))))⟩
    | n + 1, hx => simp at hx
end Go.Proofs.YtpdojmebloekgaaDoor
