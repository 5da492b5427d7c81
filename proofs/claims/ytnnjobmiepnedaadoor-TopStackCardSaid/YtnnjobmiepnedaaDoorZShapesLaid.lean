/- From the rows' premise on the table vm.shapes to its cells. -/
import Derived.Test.YtnnjobmiepnedaaDoorRows
import Derived.Test.YtnnjobmiepnedaaDoorZMVm
import Derived.Lib.LaidTab
import Derived.ChangeArms
import Derived.OpenShut
namespace Go.Proofs.YtnnjobmiepnedaaDoor
open Go
set_option linter.unusedVariables false
set_option maxRecDepth 100000

/-- The table lies in its block. -/
def ShapesAt (w : World) : Prop := ∃ (cur : Array Value) (t : TypeId) (fr : Nat × Nat), w.heap[(0 : Nat)]? = some (.cells cur t fr) ∧ ∀ i, i < 18 → cur[i]? = some (.string (Nice.shStr i))
/-- A cell of an array of strings that reads as known texts. -/
theorem str_cell {H : Type} {enc : TypeId × Value → H} {P : Program} {w : World} {base : Nat} {sp : Nat → Bool} {held : Bool} {fuel : Nat} {t e : TypeId} {n : Nat} {cs : List Value} {rows : List (DataW H)} {p : List MemPlace}
    (ht : P.underlying t = some (.array n e)) (he : P.underlying e = some .string) (hce : P.cellsOf e = 1)
    (h : DataW.trod enc P w base sp held fuel t cs = some (.agg rows, p)) (i : Nat) (s : List UInt8) (hi : i < n) (hr : rows[i]? = some (.lit (.string s))) : cs[i]? = some (.string ⟨s.toArray⟩) := by
  obtain ⟨xs, k, _, hx, _, hxl, hel⟩ := DataW.trod_array ht h
  have h1 := hel i hi
  rw [hce] at h1
  have hxi : xs[i]? = some (xs[i]'(by omega)) := List.getElem?_eq_getElem (by omega)
  rw [hxi] at h1
  have hx1 := (Prod.mk.inj hx).1
  injection hx1 with hx1
  have hri : (xs.map (·.1))[i]? = some (.lit (.string s)) := by rw [← hx1]; exact hr
  rw [List.getElem?_map, hxi] at hri
  simp only [Option.map_some, Option.some.injEq] at hri
  obtain ⟨b, hcb, hyb, _⟩ := DataW.trod_string he h1
  have hb : DataW.lit (H := H) (.string b.data.toList) = .lit (.string s) := by
    rw [← hri, hyb]
  injection hb with hb
  injection hb with hb
  subst hb
  have h3 := congrArg (·[0]?) hcb
  simp only [List.getElem?_take, List.getElem?_drop] at h3
  simpa using h3
theorem shapes_core {W : World} {ps : List MemPlace} (h : DataW.LaidVars Tryd.prog W [("barograph/vm.shapes", Rows.laid_barograph_vm_shapes)] ps) : ShapesAt W := by
  obtain ⟨g', t', cs, fuel, p, q, hg', ht', hvar, hd, _, _⟩ := h
  have hg : Tryd.prog.globalNamed "barograph/vm.shapes" = some 0 := by kernel_rfl
  have hty : (Tryd.prog.globals[(0 : Nat)]?).map (·.type) = some 137 := by kernel_rfl
  obtain rfl := Option.some.inj (hg.symm.trans hg')
  obtain rfl := Option.some.inj (hty.symm.trans ht')
  have key := fun i s hi hr => str_cell Tryd.underlying137 Tryd.underlying9 (by kernel_rfl) hd i s hi hr
  have hk : ∀ i, i < 18 → cs[i]? = some (.string (Nice.shStr i)) := by
    intro i hi
    have := key i (Nice.shL.getD i []) hi (by
      have hh : ∀ j, j < 18 → ∃ s, Nice.shL[j]? = some s := fun j hj => ⟨Nice.shL[j]'(by show j < 18; exact hj), List.getElem?_eq_getElem _⟩
      have : i = 0 ∨ i = 1 ∨ i = 2 ∨ i = 3 ∨ i = 4 ∨ i = 5 ∨ i = 6 ∨ i = 7 ∨ i = 8 ∨ i = 9 ∨ i = 10 ∨ i = 11 ∨ i = 12 ∨ i = 13 ∨ i = 14 ∨ i = 15 ∨ i = 16 ∨ i = 17 := by omega
      rcases this with rfl | rfl | rfl | rfl | rfl | rfl | rfl | rfl | rfl | rfl | rfl | rfl | rfl | rfl | rfl | rfl | rfl | rfl <;> rfl)
    rw [Array.getElem?_toList] at this
    exact this
  simp only [World.var?, hg, Option.bind_some] at hvar
  split at hvar
  · rename_i cs' t fr he
    simp only [Option.some.injEq] at hvar
    exact ⟨cs', t, fr, he, by rw [hvar]; exact hk⟩
  · cases hvar
theorem shapesAt_of {W : World} (h : laidMetH Tryd.prog [("barograph/vm.shapes", Rows.laid_barograph_vm_shapes)] W) : ShapesAt W := by
  have h' : laidMet Tryd.prog [("barograph/vm.shapes", Rows.laid_barograph_vm_shapes)] W := h
  obtain ⟨ps, h1, _⟩ := h'
  exact shapes_core h1
theorem laid_later {W : World} {x : String × DataW Unit} {l : List (String × DataW Unit)} {ps : List MemPlace} (h : DataW.LaidVars Tryd.prog W (x :: l) ps) : ∃ q, DataW.LaidVars Tryd.prog W l q := by
  obtain ⟨g', t', cs, fuel, p, q, _, _, _, _, hq, _⟩ := h
  exact ⟨q, hq⟩
theorem shapes_G {W : World} (h : ShapesAt W) : ∀ g ρ, Nice.VR (fun b => W.heap[b]?) ρ (Nice.GV g) (.pointer (some ⟨g, 0, none⟩)) := by
  intro g ρ
  match g with
  | 0 =>
    obtain ⟨cur, T, fz, hb, hc⟩ := h
    refine .vp 1 18 Nice.shF 0 0 0 0 cur T fz (fun i c => .string (Nice.shStr i)) hb (fun i c hi hcc => ?_) (fun i c hi hcc => .val _ rfl)
    obtain rfl : c = 0 := by omega
    rw [Nat.zero_add, Nat.mul_one, Nat.add_zero]; exact hc i hi
  | n + 1 => exact .any _
end Go.Proofs.YtnnjobmiepnedaaDoor
