/- The arguments of the laws of tags. -/
import Derived.Test.YtlhncpbcbpdcfaaTagMay
namespace Go.Proofs.Ytlhncpbcbpdcfaa
open Go Nice
set_option linter.unusedVariables false
set_option maxRecDepth 100000
theorem vec_imp {M : Imm} {k len : Nat} {f g : Nat → Nat → D} {v : Value} (h : DR M (.vec k len f) v) (e : ∀ i c u, i < len → c < k → DR M (f i c) u → DR M (g i c) u) : DR M (.vec k len g) v := by
  cases h with
  | vec0 => exact .vec0 _ _ _ _
  | vec _ _ _ b o cap cur T fz q hb hc hg hr => exact .vec _ _ _ b o cap cur T fz q hb hc hg fun i c hi hcc => e i c _ hi hcc (hr i c hi hcc)
def ofTag (x : (Sh.pair .str (.pair .str .unit)).T) : Nice.TagD := ⟨x.1, x.2.1⟩
theorem tags_of {M : Imm} (l : List (Sh.pair .str (.pair .str .unit)).T) {v : Value} (h : DR M ((Sh.slice (Sh.pair .str (.pair .str .unit))).cell l 0) v) : DR M (.vec 2 (l.map ofTag).length (tagF (l.map ofTag))) v := by
  rw [List.length_map]
  refine DR.vec_congr h fun i c hi hc => ?_
  rw [List.getElem?_eq_getElem hi]
  unfold tagF
  have e : (l.map ofTag).getD i default = ofTag l[i] := by simp [List.getD, hi]
  rw [e]
  match c, hc with
  | 0, _ => rfl
  | 1, _ => rfl
theorem series_of {M : Imm} (l : List (Sh.slice (Sh.pair .str (.pair .str .unit))).T) {v : Value} (h : DR M ((Sh.slice (Sh.slice (Sh.pair .str (.pair .str .unit)))).cell l 0) v) : DR M (.vec 1 (l.map (List.map ofTag)).length (serF (l.map (List.map ofTag)))) v := by
  rw [List.length_map]
  refine vec_imp h fun i c u hi hc hu => ?_
  rw [List.getElem?_eq_getElem hi] at hu
  unfold serF
  have e : (l.map (List.map ofTag)).getD i [] = l[i].map ofTag := by simp [List.getD, hi]
  rw [e]
  exact tags_of l[i] hu
theorem tagsIn_of (l : List (Sh.slice (Sh.pair .str (.pair .str .unit))).T) (h : l.length ≤ 9223372036854775807 ∧ ∀ x, x ∈ l → (Sh.slice (Sh.pair .str (.pair .str .unit))).ok x) : TagsIn (l.map (List.map ofTag)) := by
  obtain ⟨h1, h2⟩ := h
  have hl : ∀ i, (l.map (List.map ofTag)).getD i [] = (l.getD i []).map ofTag := by
    intro i
    by_cases hi : i < l.length
    · simp [List.getD, hi]
    · simp [List.getD, List.getElem?_eq_none (show l.length ≤ i by omega)]
  have hok : ∀ i, (Sh.slice (Sh.pair .str (.pair .str .unit))).ok (l.getD i []) := by
    intro i
    by_cases hi : i < l.length
    · rw [show l.getD i [] = l[i] from by simp [List.getD, hi]]; exact h2 _ (List.getElem_mem hi)
    · rw [show l.getD i [] = [] from by simp [List.getD, List.getElem?_eq_none (show l.length ≤ i by omega)]]; exact ⟨by simp, fun x hx => by cases hx⟩
  have hk : ∀ i k, (((l.map (List.map ofTag)).getD i []).getD k default).key.size ≤ 9223372036854775807 ∧ (((l.map (List.map ofTag)).getD i []).getD k default).val.size ≤ 9223372036854775807 := by
    intro i k
    rw [hl]
    by_cases hkk : k < (l.getD i []).length
    · have e : ((l.getD i []).map ofTag).getD k default = ofTag (l.getD i [])[k] := by rw [List.getD_eq_getElem?_getD, List.getElem?_map, List.getElem?_eq_getElem hkk]; rfl
      rw [e]
      have := (hok i).2 _ (List.getElem_mem hkk)
      exact ⟨this.1, this.2.1⟩
    · have e : ((l.getD i []).map ofTag).getD k default = default := by rw [List.getD_eq_getElem?_getD, List.getElem?_map, List.getElem?_eq_none (by omega)]; rfl
      rw [e]
      exact ⟨by decide, by decide⟩
  refine ⟨by rw [List.length_map]; exact h1, fun i => ?_, fun i k => (hk i k).1, fun i k => (hk i k).2⟩
  rw [hl, List.length_map]; exact (hok i).1
end Go.Proofs.Ytlhncpbcbpdcfaa
