/- The sums of bytes, as plain functions on lists of numbers. No program is in sight. -/
import Derived.Test.YtempedbpieaggaaBits
import Derived.WalkKit
namespace Go.Proofs.Ytempedbpieaggaa
open Go Go.RowKit

/-- One byte more. -/
def adStep (p : Int × Int) (x : Int) : Int × Int := ((p.1 + x) % 65521, (p.2 + (p.1 + x)) % 65521)
/-- So many bytes more. -/
def adl (p : Int × Int) (l : List Int) : Int × Int := l.foldl adStep p
theorem adl_snoc (p : Int × Int) (l : List Int) (x : Int) : adl p (l ++ [x]) = adStep (adl p l) x := by simp [adl]
theorem adl_nil (p : Int × Int) : adl p [] = p := rfl
theorem take_succ_getD (l : List Int) (k : Nat) (h : k < l.length) : l.take (k + 1) = l.take k ++ [l.getD k 0] := by
  rw [List.take_succ_eq_append_getElem h]; simp [List.getD, List.getElem?_eq_getElem h]
theorem adl_take (p : Int × Int) (l : List Int) (k : Nat) (h : k < l.length) : adl p (l.take (k + 1)) = adStep (adl p (l.take k)) (l.getD k 0) := by
  rw [take_succ_getD l k h, adl_snoc]
theorem adStep_bd (p : Int × Int) (x : Int) : 0 ≤ (adStep p x).1 ∧ (adStep p x).1 < 65521 ∧ 0 ≤ (adStep p x).2 ∧ (adStep p x).2 < 65521 := by
  unfold adStep; refine ⟨?_, ?_, ?_, ?_⟩ <;> simp only [] <;> omega
theorem adl_bd (p : Int × Int) (l : List Int) (h1 : 0 ≤ p.1) (h2 : p.1 < 65521) (h3 : 0 ≤ p.2) (h4 : p.2 < 65521) :
    0 ≤ (adl p l).1 ∧ (adl p l).1 < 65521 ∧ 0 ≤ (adl p l).2 ∧ (adl p l).2 < 65521 := by
  induction l generalizing p with
  | nil => exact ⟨h1, h2, h3, h4⟩
  | cons x l ih =>
    have hb := adStep_bd p x
    exact ih (adStep p x) hb.1 hb.2.1 hb.2.2.1 hb.2.2.2
/-- The two halves as one number. -/
theorem join16 (a b : Int) (h1 : 0 ≤ a) (h2 : a < 65536) (h3 : 0 ≤ b) (h4 : b < 65536) : bits .or .i64 (b * 65536) a = b * 65536 + a := by
  obtain ⟨x, rfl⟩ := Int.eq_ofNat_of_zero_le h1
  obtain ⟨y, rfl⟩ := Int.eq_ofNat_of_zero_le h3
  have e : ((y : Int) * 65536) = ((y * 65536 : Nat) : Int) := by omega
  rw [e, i64_or_nat _ _ (by omega) (by omega), nat_join 16 _ _ (by omega) (by omega)]
  omega
end Go.Proofs.Ytempedbpieaggaa
