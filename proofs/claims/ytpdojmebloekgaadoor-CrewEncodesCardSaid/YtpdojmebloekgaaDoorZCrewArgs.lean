/- Lists of samples as an argument. -/
import Derived.Test.YtpdojmebloekgaaDoorZClassLaid
import Derived.Test.YtpdojmebloekgaaDoorZCrewE4
namespace Go.Proofs.YtpdojmebloekgaaDoor
open Go Nice Nice.Co
set_option linter.unusedVariables false
set_option maxRecDepth 100000
def ofS (x : (Sh.pair .int (.pair .int .unit)).T) : Nice.Co.Smp := ⟨x.1, x.2.1⟩
theorem dr_of' {M : Imm} {ρ : Names} {x : D} {v : Value} (h : VR M ρ (.d x) v) : DR M x v := by cases h; assumption
theorem vec_imp {M : Imm} {k len : Nat} {f g : Nat → Nat → D} {v : Value} (h : DR M (.vec k len f) v) (e : ∀ i c u, i < len → c < k → DR M (f i c) u → DR M (g i c) u) : DR M (.vec k len g) v := by
  cases h with
  | vec0 => exact .vec0 _ _ _ _
  | vec _ _ _ b o cap cur T fz q hb hc hg hr => exact .vec _ _ _ b o cap cur T fz q hb hc hg fun i c hi hcc => e i c _ hi hcc (hr i c hi hcc)
theorem smp_of {M : Imm} (l : List (Sh.pair .int (.pair .int .unit)).T) {v : Value} (h : DR M ((Sh.slice (Sh.pair .int (.pair .int .unit))).cell l 0) v) : DR M (.vec 2 (l.map ofS).length (smpF (l.map ofS))) v := by
  rw [List.length_map]
  refine DR.vec_congr h fun i c hi hc => ?_
  rw [List.getElem?_eq_getElem hi]
  have e : (l.map ofS).getD i default = ofS l[i] := by simp [List.getD, hi]
  match c, hc with
  | 0, _ => show _ = D.val (.int .i64 ((l.map ofS).getD i default).t); rw [e]; rfl
  | 1, _ => show _ = D.val (.int .i64 ((l.map ofS).getD i default).v); rw [e]; rfl
theorem smpIn_of (l : List (Sh.pair .int (.pair .int .unit)).T) (h : l.length ≤ 9223372036854775807 ∧ ∀ x, x ∈ l → (Sh.pair .int (.pair .int .unit)).ok x) : SmpIn (l.map ofS) := by
  obtain ⟨h1, h2⟩ := h
  have key : ∀ k, inRange ((l.map ofS).getD k default).t ∧ inRange ((l.map ofS).getD k default).v := by
    intro k
    by_cases hk : k < l.length
    · have e : (l.map ofS).getD k default = ofS l[k] := by simp [List.getD, hk]
      rw [e]
      have := h2 _ (List.getElem_mem hk)
      exact ⟨this.1, this.2.1⟩
    · have e : (l.map ofS).getD k default = default := by rw [List.getD_eq_getElem?_getD, List.getElem?_map, List.getElem?_eq_none (by omega)]; rfl
      rw [e]; exact ⟨⟨by decide, by decide⟩, ⟨by decide, by decide⟩⟩
  exact ⟨by rw [List.length_map]; exact h1, fun k => (key k).1, fun k => (key k).2⟩
theorem smps_of {M : Imm} (l : List (Sh.slice (Sh.pair .int (.pair .int .unit))).T) {v : Value} (h : DR M ((Sh.slice (Sh.slice (Sh.pair .int (.pair .int .unit)))).cell l 0) v) : DR M (.vec 1 (l.map (List.map ofS)).length (fun i _ => elD (l.map (List.map ofS)) i)) v := by
  rw [List.length_map]
  refine vec_imp h fun i c u hi hc hu => ?_
  rw [List.getElem?_eq_getElem hi] at hu
  have e : (l.map (List.map ofS)).getD i [] = l[i].map ofS := by simp [List.getD, hi]
  unfold elD
  rw [e]
  exact smp_of l[i] hu
theorem smpsIn_of (l : List (Sh.slice (Sh.pair .int (.pair .int .unit))).T) (h : ∀ x, x ∈ l → (Sh.slice (Sh.pair .int (.pair .int .unit))).ok x) : ∀ m, m ∈ l.map (List.map ofS) → SmpIn m := fun m hm => by
  obtain ⟨x, hx, rfl⟩ := List.mem_map.1 hm
  exact smpIn_of x (h x hx)
end Go.Proofs.YtpdojmebloekgaaDoor
