/- The arguments of the laws over samples. -/
import Derived.Test.YtiedndnegmbkiaaDoorClassLaid
import Derived.Test.YtiedndnegmbkiaaDoorChunkEnc
namespace Go.Proofs.YtiedndnegmbkiaaDoor
open Go Nice
set_option linter.unusedVariables false
set_option maxRecDepth 100000
def ofS (x : (Sh.pair .int (.pair .int .unit)).T) : Nice.Smp := ⟨x.1, x.2.1⟩
theorem smp_of {M : Imm} (l : List (Sh.pair .int (.pair .int .unit)).T) {v : Value} (h : DR M ((Sh.slice (Sh.pair .int (.pair .int .unit))).cell l 0) v) : DR M (.vec 2 (l.map ofS).length (smpF (l.map ofS))) v := by
  rw [List.length_map]
  refine DR.vec_congr h fun i c hi hc => ?_
  rw [List.getElem?_eq_getElem hi]
  have e : (l.map ofS).getD i default = ofS l[i] := by simp [List.getD, hi]
  match c, hc with
  | 0, _ => show _ = D.val (.int .i64 ((l.map ofS).getD i default).t); rw [e]; rfl
  | 1, _ => show _ = D.val (.int .i64 ((l.map ofS).getD i default).v); rw [e]; rfl
theorem smpIn_of (l : List (Sh.pair .int (.pair .int .unit)).T) (h : l.length ≤ 9223372036854775807 ∧ ∀ x, x ∈ l → (Sh.pair .int (.pair .int .unit)).ok x) : SmpIn (l.map ofS) := by
  obtain ⟨h1, h2⟩ := h
  have key : ∀ k, inRange ((l.map ofS).getD k default).t ∧ inRange ((l.map ofS).getD k default).v := by
    intro k
    by_cases hk : k < l.length
    · have e : (l.map ofS).getD k default = ofS l[k] := by simp [List.getD, hk]
      rw [e]
      have := h2 _ (List.getElem_mem hk)
      exact ⟨this.1, this.2.1⟩
    · have e : (l.map ofS).getD k default = default := by rw [List.getD_eq_getElem?_getD, List.getElem?_map, List.getElem?_eq_none (by omega)]; rfl
      rw [e]; exact ⟨⟨by decide, by decide⟩, ⟨by decide, by decide⟩⟩
  exact ⟨by rw [List.length_map]; exact h1, fun k => (key k).1, fun k => (key k).2⟩
end Go.Proofs.YtiedndnegmbkiaaDoor
