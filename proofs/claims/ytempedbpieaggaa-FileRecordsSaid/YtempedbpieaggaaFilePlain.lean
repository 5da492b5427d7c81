/- Numbers as bytes, the highest first. No program is in sight. -/
import Derived.Test.YtempedbpieaggaaBits
import Derived.WalkKit
namespace Go.Proofs.Ytempedbpieaggaa
open Go Go.RowKit

/-- Byte i of a number. -/
def beByte (n : Int) (i : Nat) : Int := n / 256 ^ i % 256
/-- So many bytes of a number, the highest first. -/
def be (n : Int) : Nat → List Int
  | 0 => []
  | k + 1 => beByte n k :: be n k
theorem be_length (n : Int) (k : Nat) : (be n k).length = k := by induction k with
  | zero => rfl
  | succ k ih => simp [be, ih]
theorem beByte_bd (n : Int) (i : Nat) : 0 ≤ beByte n i ∧ beByte n i ≤ 255 := by unfold beByte; omega
theorem be_bd (n : Int) (k : Nat) : ∀ x ∈ be n k, 0 ≤ x ∧ x ≤ 255 := by
  induction k with
  | zero => simp [be]
  | succ k ih =>
    intro x hx
    rcases List.mem_cons.1 hx with rfl | hx
    · exact beByte_bd n k
    · exact ih x hx
theorem be_get (n : Int) (k j : Nat) (h : j < k) : (be n k)[j]? = some (beByte n (k - 1 - j)) := by
  induction k generalizing j with
  | zero => omega
  | succ k ih =>
    cases j with
    | zero => simp [be]
    | succ j =>
      simp only [be, List.getElem?_cons_succ]
      rw [ih j (by omega), show k - 1 - j = k + 1 - 1 - (j + 1) by omega]
theorem be_take (n : Int) (k j : Nat) (h : j < k) : (be n k).take (j + 1) = (be n k).take j ++ [beByte n (k - 1 - j)] := by
  rw [List.take_add_one, be_get n k j h]; rfl
theorem pow8 (n q : Int) (h : 0 ≤ q) : n / 2 ^ (8 * q).toNat % 256 = beByte n q.toNat := by
  unfold beByte
  obtain ⟨k, rfl⟩ := Int.eq_ofNat_of_zero_le h
  rw [show (8 * (k : Int)).toNat = 8 * k by omega, Int.toNat_natCast, Int.pow_mul]
  rfl
end Go.Proofs.Ytempedbpieaggaa
