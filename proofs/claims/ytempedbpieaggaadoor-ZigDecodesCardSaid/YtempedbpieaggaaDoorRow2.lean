/- What a walk is told of a slice of structs of two integers that came in. No program is in sight. -/
import Derived.Test.YtempedbpieaggaaDoorRow
import Derived.Deep.Slices
import Derived.Deep.Fields
import Derived.ChangeSame
namespace Go.Proofs.YtempedbpieaggaaDoor
open Go Go.RowKit Go.ChangeShapes Go.WideShapes Go.Deep
set_option linter.unusedVariables false
section
variable {H : Type} {enc : TypeId × Value → H} {P : Program} {w : World} {base : Nat} {spare : Nat → Bool} {held : Bool}
theorem open_slice_fields {t e : TypeId} {fs : Array Field} {fuel : Nat} {cs : List Value} {x : DataW H × List MemPlace} (ht : P.underlying t = some (.slice e)) (he : P.underlying e = some (.struct fs))
    (hone : oneCellFields P fs = true) (hC : P.cellsOf e = fs.size) (h : DataW.trod enc P w base spare held fuel t cs = some x) :
    (cs = [.slice none 0 0] ∧ x = (.nil, [])) ∨
    ∃ (a : Addr) (len cap m : Nat) (D : Nat → DataW H) (Pl : Nat → List MemPlace), cs = [.slice (some a) len cap] ∧ base ≤ a.block ∧ len ≤ cap ∧ cap ≤ maxLen ∧ m = (if spare a.block then cap else len) ∧
      x = (.slice ((List.range len).map D) ((List.range (m - len)).map fun j => D (len + j)), MemPlace.row a (m * fs.size) ++ (List.range m).flatMap Pl) ∧
      ∀ i, i < m → ∃ (ys : List (DataW H × List MemPlace)) (n : Nat), D i = .agg (ys.map (·.1)) ∧ Pl i = ys.flatMap (·.2) ∧ ys.length = fs.size ∧
        ∀ (j : Nat) (f : Field), fs[j]? = some f → ∃ (v : Value) (y : DataW H × List MemPlace), w.cell? (a.add (i * fs.size + j)) = some v ∧ ys[j]? = some y ∧ DataW.trod enc P w base spare held n f.type [v] = some y := by
  rcases open_slice ht h with h0 | ⟨a, len, cap, m, n, D, Pl, hcs, hb, hl, hm, hmm, hx, hi⟩
  · exact .inl h0
  · refine .inr ⟨a, len, cap, m, D, Pl, hcs, hb, hl, hm, hmm, by rw [hC] at hx; exact hx, fun i him => ?_⟩
    obtain ⟨cs', hc, ht'⟩ := hi i him
    rw [hC] at hc
    obtain ⟨ys, n', hn', hy, hlen, hyl, hf⟩ := DataW.trod_struct he ht'
    obtain ⟨_, hcl, hat⟩ := World.cells?_some hc
    simp only [Prod.mk.injEq] at hy
    refine ⟨ys, n', hy.1, hy.2, hyl, fun j f hj => ?_⟩
    obtain ⟨ho, hk⟩ := hone_of hone j f hj
    have hjl : j < fs.size := (Array.getElem?_eq_some_iff.1 hj).1
    have hcell := hat j hjl
    have hv : cs'[j]? = some (cs'[j]'(by omega)) := List.getElem?_eq_getElem (by omega)
    have h1 := hf j f hj
    rw [ho, hk] at h1
    have hone' : (cs'.drop j).take 1 = [cs'[j]'(by omega)] := by
      rw [List.drop_eq_getElem_cons (by omega)]
      rfl
    rw [hone'] at h1
    have hys : ys[j]? = some (ys[j]'(by omega)) := List.getElem?_eq_getElem (by omega)
    refine ⟨_, _, ?_, hys, h1.trans hys⟩
    rw [← Go.Deep.add_add, hcell, hv]

/-- The first cells from an address on hold pairs of int64; all this lies below block B. -/
def Reads2 (w : World) (B : Nat) (a : Option Addr) (ps : List (Int × Int)) : Prop :=
  ps.length ≤ maxLen ∧ (∀ p ∈ ps, (Lit.int .i64 p.1).wf = true ∧ (Lit.int .i64 p.2).wf = true) ∧
  (ps ≠ [] → ∃ b off, a = some ⟨b, off, none⟩ ∧ b < B ∧ ∀ i, i < ps.length → w.cell? ⟨b, off + i * 2, none⟩ = some (.int .i64 (ps.getD i (0, 0)).1) ∧ w.cell? ⟨b, off + i * 2 + 1, none⟩ = some (.int .i64 (ps.getD i (0, 0)).2))
theorem Reads2.below {w w' : World} {B : Nat} {a : Option Addr} {ps : List (Int × Int)} (h : Reads2 w B a ps) (hb : Below B w w') : Reads2 w' B a ps :=
  ⟨h.1, h.2.1, fun hne => by
    obtain ⟨b, off, rfl, hlt, hc⟩ := h.2.2 hne
    exact ⟨b, off, rfl, hlt, fun i hi => ⟨(hb.cell (p := ⟨b, off + i * 2, none⟩) hlt).trans (hc i hi).1, (hb.cell (p := ⟨b, off + i * 2 + 1, none⟩) hlt).trans (hc i hi).2⟩⟩⟩
theorem Reads2.more {w : World} {B B' : Nat} {a : Option Addr} {ps : List (Int × Int)} (h : Reads2 w B a ps) (hB : B ≤ B') : Reads2 w B' a ps :=
  ⟨h.1, h.2.1, fun hne => by
    obtain ⟨b, off, rfl, hlt, hc⟩ := h.2.2 hne
    exact ⟨b, off, rfl, by omega, hc⟩⟩
theorem Reads2.at_ {w : World} {B : Nat} {a : Option Addr} {ps : List (Int × Int)} (h : Reads2 w B a ps) (h0 : 0 < ps.length) :
    ∃ b off, a = some ⟨b, off, none⟩ ∧ b < B ∧ ∀ i, i < ps.length → w.cell? ⟨b, off + i * 2, none⟩ = some (.int .i64 (ps.getD i (0, 0)).1) ∧ w.cell? ⟨b, off + i * 2 + 1, none⟩ = some (.int .i64 (ps.getD i (0, 0)).2) :=
  h.2.2 (fun e => by rw [e] at h0; simp at h0)
theorem Reads2.bd {w : World} {B : Nat} {a : Option Addr} {ps : List (Int × Int)} (h : Reads2 w B a ps) (i : Nat) :
    (-9223372036854775808 ≤ (ps.getD i (0, 0)).1 ∧ (ps.getD i (0, 0)).1 ≤ 9223372036854775807) ∧ (-9223372036854775808 ≤ (ps.getD i (0, 0)).2 ∧ (ps.getD i (0, 0)).2 ≤ 9223372036854775807) := by
  rcases Nat.lt_or_ge i ps.length with hi | hi
  · have := h.2.1 (ps.getD i (0, 0)) (by simp [List.getD, List.getElem?_eq_getElem hi])
    exact ⟨i64_bd this.1, i64_bd this.2⟩
  · simp [List.getD, List.getElem?_eq_none hi]

theorem drop_pair (ps : List (Int × Int)) (k : Nat) (h : k < ps.length) : ps.drop k = ((ps.getD k (0, 0)).1, (ps.getD k (0, 0)).2) :: ps.drop (k + 1) := by
  have e : ps.getD k (0, 0) = ps[k] := by simp [List.getD, List.getElem?_eq_getElem h]
  rw [e]; exact List.drop_eq_getElem_cons h
/-- A slice of structs of two int64 that came in. -/
theorem open_pairs {t e : TypeId} {f0 f1 : Field} {v : Value} {d : DataW H} {p : List MemPlace} {b0 : Nat} {r : Reach}
    (ht : P.underlying t = some (.slice e)) (he : P.underlying e = some (.struct #[f0, f1])) (h0 : P.underlying f0.type = some (.int .i64)) (h1 : P.underlying f1.type = some (.int .i64))
    (hone : oneCellFields P #[f0, f1] = true) (hC : P.cellsOf e = 2) (hv : Value.okWide P w r b0 t v) (h : DataW.Trod enc P w base spare held t v d p) :
    ∃ (a : Option Addr) (cap : Nat) (ps : List (Int × Int)), v = .slice a ps.length cap ∧ Reads2 w w.heap.size a ps := by
  obtain ⟨a0, len0, cap0, rfl⟩ := okWide_slice ht hv
  obtain ⟨fuel, hf⟩ := h
  rcases open_slice_fields ht he hone (by simpa using hC) hf with ⟨hcs, _⟩ | ⟨a, len, cap, m, D, Pl, hcs, hb, hl, hm, hmm, hx, hi⟩
  · simp [Value.cells] at hcs
    obtain ⟨rfl, rfl, rfl⟩ := hcs
    exact ⟨none, 0, [], rfl, by simp, by simp, by simp⟩
  · simp [Value.cells] at hcs
    obtain ⟨rfl, rfl, rfl⟩ := hcs
    have hlm : len0 ≤ m := by rw [hmm]; split <;> omega
    have hall : ∀ i, i < len0 → ∃ x y : Int, w.cell? (a.add (i * 2)) = some (.int .i64 x) ∧ w.cell? (a.add (i * 2 + 1)) = some (.int .i64 y) ∧ (Lit.int .i64 x).wf = true ∧ (Lit.int .i64 y).wf = true := by
      intro i hi0
      obtain ⟨ys, n, _, _, _, hff⟩ := hi i (by omega)
      obtain ⟨v0, y0, hc0, _, ht0⟩ := hff 0 f0 rfl
      obtain ⟨v1, y1, hc1, _, ht1⟩ := hff 1 f1 rfl
      obtain ⟨x0, e0, _, wx0⟩ := DataW.trod_int h0 ht0
      obtain ⟨x1, e1, _, wx1⟩ := DataW.trod_int h1 ht1
      simp at e0 e1
      subst e0 e1
      exact ⟨x0, x1, by simpa using hc0, by simpa using hc1, wx0, wx1⟩
    have hlist : ∀ n, n ≤ len0 → ∃ ps : List (Int × Int), ps.length = n ∧ ∀ i, i < n → w.cell? (a.add (i * 2)) = some (.int .i64 (ps.getD i (0, 0)).1) ∧ w.cell? (a.add (i * 2 + 1)) = some (.int .i64 (ps.getD i (0, 0)).2) ∧ (Lit.int .i64 (ps.getD i (0, 0)).1).wf = true ∧ (Lit.int .i64 (ps.getD i (0, 0)).2).wf = true := by
      intro n
      induction n with
      | zero => exact fun _ => ⟨[], rfl, fun i hi => absurd hi (by omega)⟩
      | succ n ih =>
        intro hn
        obtain ⟨ps, hpl, hps⟩ := ih (by omega)
        obtain ⟨x, y, h1, h2, h3, h4⟩ := hall n (by omega)
        refine ⟨ps ++ [(x, y)], by simp [hpl], fun i hi => ?_⟩
        by_cases he : i = n
        · subst he
          have : (ps ++ [(x, y)]).getD i (0, 0) = (x, y) := by simp [List.getD, ← hpl]
          rw [this]; exact ⟨h1, h2, h3, h4⟩
        · have : (ps ++ [(x, y)]).getD i (0, 0) = ps.getD i (0, 0) := by simp [List.getD, List.getElem?_append_left (show i < ps.length by omega)]
          rw [this]; exact hps i (by omega)
    obtain ⟨ps, hpl, hps⟩ := hlist len0 (Nat.le_refl _)
    refine ⟨some a, cap0, ps, by rw [hpl], by omega, fun p hp => ?_, fun hne => ?_⟩
    · obtain ⟨i, hi, rfl⟩ := List.mem_iff_getElem.1 hp
      have := hps i (by omega)
      simp only [List.getD, List.getElem?_eq_getElem hi, Option.getD_some] at this
      exact this.2.2
    · have h0' : 0 < len0 := by rw [← hpl]; exact List.length_pos_iff.2 hne
      obtain ⟨b, off, spot⟩ := a
      have hc0 := (hps 0 h0').1
      have hspot : spot = none := by simpa [Addr.add] using World.cell?_spot hc0
      subst hspot
      have key : ∀ j : Nat, (⟨b, off, none⟩ : Addr).add j = ⟨b, off + j, none⟩ := by
        intro j
        by_cases hj : j = 0
        · subst hj; simp [Addr.add]
        · simp [Addr.add, hj]
      have hps' : ∀ i, i < len0 → w.cell? ⟨b, off + i * 2, none⟩ = some (.int .i64 (ps.getD i (0, 0)).1) ∧ w.cell? ⟨b, off + i * 2 + 1, none⟩ = some (.int .i64 (ps.getD i (0, 0)).2) := by
        intro i hi
        have := hps i hi
        rw [key, key] at this
        exact ⟨this.1, by rw [Nat.add_assoc]; exact this.2.1⟩
      exact ⟨b, off, rfl, cell_lt (hps' 0 h0').1, fun i hi => hps' i (by omega)⟩
end
end Go.Proofs.YtempedbpieaggaaDoor
