/- From the rows' premise on the table zig.classes to what a walk knows of it. -/
import Derived.Test.YtpdojmebloekgaaDoorRows
import Derived.Test.YtpdojmebloekgaaDoorZChunkPen
import Derived.Lib.LaidTab
import Derived.ChangeArms
import Derived.OpenShut
namespace Go.Proofs.YtpdojmebloekgaaDoor
open Go Go.RowKit
set_option linter.unusedVariables false

def ClassesAt (w : World) : Prop := ∃ (t : TypeId) (fr : Nat × Nat), w.heap[(0 : Nat)]? = some (.cells #[.int .i64 0, .int .i64 1, .int .i64 0, .int .i64 2, .int .i64 2, .int .i64 6, .int .i64 6, .int .i64 3, .int .i64 12, .int .i64 14, .int .i64 4, .int .i64 24, .int .i64 15, .int .i64 4, .int .i64 59] t fr)
/-- A cell of an array of structs of integers that reads as known rows. -/
theorem rows_cell {H : Type} {enc : TypeId × Value → H} {P : Program} {w : World} {base : Nat} {sp : Nat → Bool} {held : Bool} {fuel : Nat} {t e : TypeId} {n m : Nat} {fs : Array Field} {cs : List Value} {rows : List (DataW H)} {p : List MemPlace}
    (ht : P.underlying t = some (.array n e)) (he : P.underlying e = some (.struct fs)) (hce : P.cellsOf e = m)
    (h : DataW.trod enc P w base sp held fuel t cs = some (.agg rows, p)) (i j : Nat) (f : Field) (r : List (DataW H)) (z : Int) (hi : i < n) (hr : rows[i]? = some (.agg r)) (hj : fs[j]? = some f) (hoff : f.offset = j) (hft : P.underlying f.type = some (.int .i64)) (hfc : P.cellsOf f.type = 1) (hjm : j < m)
    (hz : r[j]? = some (.lit (.int .i64 z))) : cs[i * m + j]? = some (.int .i64 z) := by
  obtain ⟨xs, k, _, hx, _, hxl, hel⟩ := DataW.trod_array ht h
  have h1 := hel i hi
  rw [hce] at h1
  have hxi : xs[i]? = some (xs[i]'(by omega)) := List.getElem?_eq_getElem (by omega)
  rw [hxi] at h1
  have hx1 := (Prod.mk.inj hx).1
  injection hx1 with hx1
  have hri : (xs.map (·.1))[i]? = some (.agg r) := by rw [← hx1]; exact hr
  rw [List.getElem?_map, hxi] at hri
  simp only [Option.map_some, Option.some.injEq] at hri
  obtain ⟨ys, k2, _, hy, _, hyl, hf⟩ := DataW.trod_struct he h1
  have h2 := hf j f hj
  rw [hoff, hfc] at h2
  have hys : j < ys.length := by rw [hyl]; exact (Array.getElem?_eq_some_iff.1 hj).1
  have hyj : ys[j]? = some (ys[j]'hys) := List.getElem?_eq_getElem hys
  rw [hyj] at h2
  obtain ⟨z', hcz, hyz, _⟩ := DataW.trod_int hft h2
  have hagg : DataW.agg (ys.map (·.1)) = .agg r := by
    have := congrArg Prod.fst hy
    rw [← hri]; exact this.symm
  injection hagg with hagg
  have hrj : (ys.map (·.1))[j]? = some (.lit (.int .i64 z)) := by rw [hagg]; exact hz
  rw [List.getElem?_map, hyj] at hrj
  simp only [Option.map_some, Option.some.injEq] at hrj
  have hzz : z' = z := by
    have : (ys[j]'hys).1 = .lit (.int .i64 z') := by rw [hyz]
    rw [this] at hrj
    injection hrj with hrj
    injection hrj
  subst hzz
  have h3 := congrArg (·[0]?) hcz
  simp only [List.getElem?_take, List.getElem?_drop] at h3
  simpa [hjm] using h3
set_option maxRecDepth 100000 in
theorem classesAt_of {W : World} (h : laidMetH Tryd.prog [("barograph/zig.classes", Rows.laid_barograph_zig_classes)] W) : ClassesAt W := by
  have h' : laidMet Tryd.prog [("barograph/zig.classes", Rows.laid_barograph_zig_classes)] W := h
  obtain ⟨ps, ⟨g', t', cs, fuel, p, q, hg', ht', hvar, hd, _, _⟩, _⟩ := h'
  have hg : Tryd.prog.globalNamed "barograph/zig.classes" = some 0 := by kernel_rfl
  have hty : (Tryd.prog.globals[(0 : Nat)]?).map (·.type) = some 128 := by kernel_rfl
  obtain rfl := Option.some.inj (hg.symm.trans hg')
  obtain rfl := Option.some.inj (hty.symm.trans ht')
  have hcl : cs.toList.length = 15 := by
    obtain ⟨_, _, _, _, hl, _, _⟩ := DataW.trod_array Tryd.underlying128 hd
    rw [hl]; kernel_rfl
  have key := fun i j f r z hi hr hj hoff hft hfc hjm hz => rows_cell (m := 3) Tryd.underlying128 Tryd.underlying124 (by kernel_rfl) hd i j f r z hi hr hj hoff hft hfc hjm hz
  have u3 := Tryd.underlying3
  have c3 : Tryd.prog.cellsOf 3 = 1 := by kernel_rfl
  have k0 : cs.toList[0]? = some (.int .i64 0) := key 0 0 _ _ 0 (by decide) rfl rfl rfl u3 c3 (by decide) rfl
  have k1 : cs.toList[1]? = some (.int .i64 1) := key 0 1 _ _ 1 (by decide) rfl rfl rfl u3 c3 (by decide) rfl
  have k2 : cs.toList[2]? = some (.int .i64 0) := key 0 2 _ _ 0 (by decide) rfl rfl rfl u3 c3 (by decide) rfl
  have k3 : cs.toList[3]? = some (.int .i64 2) := key 1 0 _ _ 2 (by decide) rfl rfl rfl u3 c3 (by decide) rfl
  have k4 : cs.toList[4]? = some (.int .i64 2) := key 1 1 _ _ 2 (by decide) rfl rfl rfl u3 c3 (by decide) rfl
  have k5 : cs.toList[5]? = some (.int .i64 6) := key 1 2 _ _ 6 (by decide) rfl rfl rfl u3 c3 (by decide) rfl
  have k6 : cs.toList[6]? = some (.int .i64 6) := key 2 0 _ _ 6 (by decide) rfl rfl rfl u3 c3 (by decide) rfl
  have k7 : cs.toList[7]? = some (.int .i64 3) := key 2 1 _ _ 3 (by decide) rfl rfl rfl u3 c3 (by decide) rfl
  have k8 : cs.toList[8]? = some (.int .i64 12) := key 2 2 _ _ 12 (by decide) rfl rfl rfl u3 c3 (by decide) rfl
  have k9 : cs.toList[9]? = some (.int .i64 14) := key 3 0 _ _ 14 (by decide) rfl rfl rfl u3 c3 (by decide) rfl
  have k10 : cs.toList[10]? = some (.int .i64 4) := key 3 1 _ _ 4 (by decide) rfl rfl rfl u3 c3 (by decide) rfl
  have k11 : cs.toList[11]? = some (.int .i64 24) := key 3 2 _ _ 24 (by decide) rfl rfl rfl u3 c3 (by decide) rfl
  have k12 : cs.toList[12]? = some (.int .i64 15) := key 4 0 _ _ 15 (by decide) rfl rfl rfl u3 c3 (by decide) rfl
  have k13 : cs.toList[13]? = some (.int .i64 4) := key 4 1 _ _ 4 (by decide) rfl rfl rfl u3 c3 (by decide) rfl
  have k14 : cs.toList[14]? = some (.int .i64 59) := key 4 2 _ _ 59 (by decide) rfl rfl rfl u3 c3 (by decide) rfl
  have hcs : cs.toList = [.int .i64 0, .int .i64 1, .int .i64 0, .int .i64 2, .int .i64 2, .int .i64 6, .int .i64 6, .int .i64 3, .int .i64 12, .int .i64 14, .int .i64 4, .int .i64 24, .int .i64 15, .int .i64 4, .int .i64 59] := by
    apply List.ext_getElem?
    intro i
    rcases Nat.lt_or_ge i 15 with hi | hi
    · have : i = 0 ∨ i = 1 ∨ i = 2 ∨ i = 3 ∨ i = 4 ∨ i = 5 ∨ i = 6 ∨ i = 7 ∨ i = 8 ∨ i = 9 ∨ i = 10 ∨ i = 11 ∨ i = 12 ∨ i = 13 ∨ i = 14 := by omega
      rcases this with rfl | rfl | rfl | rfl | rfl | rfl | rfl | rfl | rfl | rfl | rfl | rfl | rfl | rfl | rfl
      · exact k0
      · exact k1
      · exact k2
      · exact k3
      · exact k4
      · exact k5
      · exact k6
      · exact k7
      · exact k8
      · exact k9
      · exact k10
      · exact k11
      · exact k12
      · exact k13
      · exact k14
    · rw [List.getElem?_eq_none (by omega), List.getElem?_eq_none (by simpa using hi)]
  simp only [World.var?, hg, Option.bind_some] at hvar
  split at hvar
  · rename_i cs' t fr he
    simp only [Option.some.injEq] at hvar
    refine ⟨t, fr, ?_⟩
    rw [he, hvar, ← Array.toArray_toList (xs := cs), hcs]
  · cases hvar
theorem classes_G {W : World} (h : ClassesAt W) : ∀ g ρ, Nice.VR (fun b => W.heap[b]?) ρ (Nice.Co.GC g) (.pointer (some ⟨g, 0, none⟩)) := by
  intro g ρ
  by_cases hg : g = 0
  · subst hg
    obtain ⟨T, fz, hb⟩ := h
    have key : ∀ c, c < 15 → (#[.int .i64 0, .int .i64 1, .int .i64 0, .int .i64 2, .int .i64 2, .int .i64 6, .int .i64 6, .int .i64 3, .int .i64 12, .int .i64 14, .int .i64 4, .int .i64 24, .int .i64 15, .int .i64 4, .int .i64 59] : Array Value)[c]? = some (.int .i64 (Nice.Co.clL.getD c 0)) := by
      intro c hc
      have : c = 0 ∨ c = 1 ∨ c = 2 ∨ c = 3 ∨ c = 4 ∨ c = 5 ∨ c = 6 ∨ c = 7 ∨ c = 8 ∨ c = 9 ∨ c = 10 ∨ c = 11 ∨ c = 12 ∨ c = 13 ∨ c = 14 := by omega
      rcases this with rfl | rfl | rfl | rfl | rfl | rfl | rfl | rfl | rfl | rfl | rfl | rfl | rfl | rfl | rfl <;> rfl
    refine .vp 15 1 Nice.Co.clF 0 0 0 0 _ T fz (fun i c => .int .i64 (Nice.Co.clL.getD c 0)) hb (fun i c hi hc => ?_) (fun i c hi hc => .val _ rfl)
    obtain rfl : i = 0 := by omega
    rw [show 0 + 0 * 15 + c = c by omega]; exact key c hc
  · have : Nice.Co.GC g = .any := by
      unfold Nice.Co.GC
      split
      · exact absurd rfl hg
      · rfl
    rw [this]; exact .any _
end Go.Proofs.YtpdojmebloekgaaDoor
