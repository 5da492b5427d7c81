/- What a walk is told of a slice of integers that came in, and what it reads of it. No program is in sight. -/
import Derived.WalkKit
import Derived.ProofKit
import Derived.Below
namespace Go.Proofs.YtempedbpieaggaaDoor
open Go Go.RowKit

/-- A slice of integers that came in is nil; or it leads to a row of 'cap' cells, the numbers 'zs' (the first 'len' are its elements, the rest its spare room), each fitting its kind. -/
def IsRow (k : IntKind) (w : World) (a : Option Addr) (len cap : Nat) (zs : List Int) : Prop :=
  (a = none ∧ len = 0 ∧ cap = 0 ∧ zs = []) ∨
  ∃ x, a = some x ∧ len ≤ cap ∧ cap ≤ maxLen ∧ zs.length = cap ∧ (∀ i, i < zs.length → w.cell? (x.add i) = some (.int k (zs.getD i 0))) ∧ ∀ n ∈ zs, (Lit.int k n).wf = true

/-- The first 'len' cells from an address on hold the numbers 'zs'; all this lies below block B. -/
def Reads (k : IntKind) (w : World) (B : Nat) (a : Option Addr) (zs : List Int) : Prop :=
  zs.length ≤ maxLen ∧ (∀ n ∈ zs, (Lit.int k n).wf = true) ∧
  (zs ≠ [] → ∃ b off, a = some ⟨b, off, none⟩ ∧ b < B ∧ ∀ i, i < zs.length → w.cell? ⟨b, off + i, none⟩ = some (.int k (zs.getD i 0)))

theorem cell_lt {w : World} {b o : Nat} {v : Value} (h : w.cell? ⟨b, o, none⟩ = some v) : b < w.heap.size := by
  rcases Nat.lt_or_ge b w.heap.size with hlt | hge
  · exact hlt
  · simp [World.cell?, Array.getElem?_eq_none hge] at h

theorem IsRow.len_le {k : IntKind} {w : World} {a : Option Addr} {len cap : Nat} {zs : List Int} (h : IsRow k w a len cap zs) : len ≤ cap ∧ cap ≤ maxLen ∧ zs.length = cap := by
  rcases h with ⟨_, rfl, rfl, rfl⟩ | ⟨x, _, hl, hm, hz, _⟩
  · exact ⟨Nat.le_refl _, Nat.zero_le _, rfl⟩
  · exact ⟨hl, hm, hz⟩

theorem IsRow.reads {k : IntKind} {w : World} {a : Option Addr} {len cap : Nat} {zs : List Int} (h : IsRow k w a len cap zs) :
    Reads k w w.heap.size a (zs.take len) ∧ (zs.take len).length = len := by
  rcases h with ⟨rfl, rfl, rfl, rfl⟩ | ⟨x, rfl, hl, hm, hz, hc, hw⟩
  · exact ⟨⟨by simp, by simp, by simp⟩, rfl⟩
  · refine ⟨⟨by rw [List.length_take]; omega, fun n hn => hw n (List.mem_of_mem_take hn), fun hne => ?_⟩, by rw [List.length_take]; omega⟩
    have h0 : 0 < zs.length := by
      rcases Nat.eq_zero_or_pos zs.length with h | h
      · exact absurd (by rw [List.length_eq_zero_iff.1 h]; simp) hne
      · exact h
    obtain ⟨b, off, spot⟩ := x
    have hc0 := hc 0 h0
    have hspot : spot = none := by simpa [Addr.add] using World.cell?_spot hc0
    subst hspot
    have hc' : ∀ i, i < zs.length → w.cell? ⟨b, off + i, none⟩ = some (.int k (zs.getD i 0)) := fun i hi => by
      have := hc i hi
      by_cases h0 : i = 0
      · subst h0; simpa [Addr.add] using this
      · simpa [Addr.add, h0] using this
    refine ⟨b, off, rfl, cell_lt (hc' 0 h0), fun i hi => ?_⟩
    rw [List.length_take] at hi
    rw [hc' i (by omega)]
    simp [List.getD, show i < len by omega]

theorem Reads.below {k : IntKind} {w w' : World} {B : Nat} {a : Option Addr} {zs : List Int} (h : Reads k w B a zs) (hb : Below B w w') : Reads k w' B a zs :=
  ⟨h.1, h.2.1, fun hne => by
    obtain ⟨b, off, rfl, hlt, hc⟩ := h.2.2 hne
    exact ⟨b, off, rfl, hlt, fun i hi => (hb.cell (p := ⟨b, off + i, none⟩) hlt).trans (hc i hi)⟩⟩
theorem Reads.more {k : IntKind} {w : World} {B B' : Nat} {a : Option Addr} {zs : List Int} (h : Reads k w B a zs) (hB : B ≤ B') : Reads k w B' a zs :=
  ⟨h.1, h.2.1, fun hne => by
    obtain ⟨b, off, rfl, hlt, hc⟩ := h.2.2 hne
    exact ⟨b, off, rfl, by omega, hc⟩⟩
/-- The element at i, as the walk reads it. -/
theorem Reads.at_ {k : IntKind} {w : World} {B : Nat} {a : Option Addr} {zs : List Int} (h : Reads k w B a zs) (h0 : 0 < zs.length) :
    ∃ b off, a = some ⟨b, off, none⟩ ∧ b < B ∧ ∀ i, i < zs.length → w.cell? ⟨b, off + i, none⟩ = some (.int k (zs.getD i 0)) :=
  h.2.2 (fun e => by rw [e] at h0; simp at h0)
theorem Reads.u8 {w : World} {B : Nat} {a : Option Addr} {zs : List Int} (h : Reads .u8 w B a zs) (i : Nat) : 0 ≤ zs.getD i 0 ∧ zs.getD i 0 ≤ 255 := by
  rcases Nat.lt_or_ge i zs.length with hi | hi
  · have := h.2.1 (zs.getD i 0) (by simp [List.getD, List.getElem?_eq_getElem hi])
    simpa [Lit.wf, IntKind.min, IntKind.max, IntKind.signed, IntKind.bits] using this
  · simp [List.getD, List.getElem?_eq_none hi]
theorem Reads.i64 {w : World} {B : Nat} {a : Option Addr} {zs : List Int} (h : Reads .i64 w B a zs) (i : Nat) : -9223372036854775808 ≤ zs.getD i 0 ∧ zs.getD i 0 ≤ 9223372036854775807 := by
  rcases Nat.lt_or_ge i zs.length with hi | hi
  · have := h.2.1 (zs.getD i 0) (by simp [List.getD, List.getElem?_eq_getElem hi])
    simpa [Lit.wf, IntKind.min, IntKind.max, IntKind.signed, IntKind.bits] using this
  · simp [List.getD, List.getElem?_eq_none hi]
theorem i64_bd {n : Int} (h : (Lit.int .i64 n).wf = true) : -9223372036854775808 ≤ n ∧ n ≤ 9223372036854775807 := by
  simpa [Lit.wf, IntKind.min, IntKind.max, IntKind.signed, IntKind.bits] using h
theorem u8_bd {n : Int} (h : (Lit.int .u8 n).wf = true) : 0 ≤ n ∧ n ≤ 255 := by
  simpa [Lit.wf, IntKind.min, IntKind.max, IntKind.signed, IntKind.bits] using h
end Go.Proofs.YtempedbpieaggaaDoor
