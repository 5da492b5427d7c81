/- Plain facts on the model's bit operations at int64 and uint8: what they come to as numbers. No program is in sight. -/
import Derived.WalkKit
import Derived.Laws.BitsAllLaws
import Derived.Laws.BitsLemmas
namespace Go.Proofs.YtpdojmebloekgaaDoor
open Go

theorem ofInt_i64 (a : Nat) (ha : a < 9223372036854775808) : (BitVec.ofInt 64 (a : Int)).toNat = a := by
  rw [BitVec.ofInt_natCast, BitVec.toNat_ofNat]; exact Nat.mod_eq_of_lt (by omega)
theorem i64_and_nat (a b : Nat) (ha : a < 9223372036854775808) (hb : b < 9223372036854775808) : bits .and .i64 (a : Int) (b : Int) = ((a &&& b : Nat) : Int) := by
  have hx : a &&& b < 2 ^ 63 := Nat.and_lt_two_pow _ (by omega)
  show IntKind.i64.wrap ((BitVec.ofInt 64 (a : Int) &&& BitVec.ofInt 64 (b : Int)).toNat : Int) = _
  rw [BitVec.toNat_and, ofInt_i64 a ha, ofInt_i64 b hb, IntKind.wrap_i64]
  omega
theorem i64_or_nat (a b : Nat) (ha : a < 9223372036854775808) (hb : b < 9223372036854775808) : bits .or .i64 (a : Int) (b : Int) = ((a ||| b : Nat) : Int) := by
  have hx : a ||| b < 2 ^ 63 := Nat.or_lt_two_pow (by omega) (by omega)
  show IntKind.i64.wrap ((BitVec.ofInt 64 (a : Int) ||| BitVec.ofInt 64 (b : Int)).toNat : Int) = _
  rw [BitVec.toNat_or, ofInt_i64 a ha, ofInt_i64 b hb, IntKind.wrap_i64]
  omega
/-- The pattern of a negative number has what lacks to 2^64. -/
theorem ofInt_i64_toNat (a : Int) (h1 : -9223372036854775808 ≤ a) (h2 : a < 9223372036854775808) :
    (BitVec.ofInt 64 a).toNat = (if a < 0 then a + 18446744073709551616 else a).toNat := by
  rw [BitVec.toNat_ofInt]
  split <;> omega
theorem i64_wrap_toNat (r : BitVec 64) : IntKind.i64.wrap (r.toNat : Int) = r.toInt := by
  rw [IntKind.wrap_i64, BitVec.toInt_eq_toNat_cond]
  have := r.isLt
  split <;> omega
theorem ofInt_toInt (a : Int) (h1 : -9223372036854775808 ≤ a) (h2 : a < 9223372036854775808) : (BitVec.ofInt 64 a).toInt = a := by
  rw [BitVec.toInt_ofInt]; simp only [Int.bmod]; omega
theorem i64_xor_zero (a : Int) (h1 : -9223372036854775808 ≤ a) (h2 : a < 9223372036854775808) : bits .xor .i64 a 0 = a := by
  show IntKind.i64.wrap ((BitVec.ofInt 64 a ^^^ BitVec.ofInt 64 0).toNat : Int) = _
  rw [i64_wrap_toNat, show BitVec.ofInt 64 0 = 0#64 from rfl, BitVec.xor_zero, ofInt_toInt a h1 h2]
theorem i64_xor_ones (a : Int) (h1 : -9223372036854775808 ≤ a) (h2 : a < 9223372036854775808) : bits .xor .i64 a (-1) = -a - 1 := by
  show IntKind.i64.wrap ((BitVec.ofInt 64 a ^^^ BitVec.ofInt 64 (-1)).toNat : Int) = _
  rw [i64_wrap_toNat, show BitVec.ofInt 64 (-1) = BitVec.allOnes 64 from rfl, BitVec.xor_allOnes]
  rw [BitVec.toInt_not, ofInt_i64_toNat a h1 h2]
  simp only [Int.bmod]
  split <;> omega
/-- The lowest bit, of whatever number. -/
theorem i64_and_one (a : Int) (h1 : -9223372036854775808 ≤ a) (h2 : a < 9223372036854775808) : bits .and .i64 a 1 = a % 2 := by
  show IntKind.i64.wrap ((BitVec.ofInt 64 a &&& BitVec.ofInt 64 1).toNat : Int) = _
  rw [BitVec.toNat_and, show (BitVec.ofInt 64 1).toNat = 1 from rfl, Nat.and_one_is_mod, IntKind.wrap_i64, ofInt_i64_toNat a h1 h2]
  split <;> omega
/-- The lowest sixteen bits, of whatever number. -/
theorem i64_and_65535 (a : Int) (h1 : -9223372036854775808 ≤ a) (h2 : a < 9223372036854775808) : bits .and .i64 a 65535 = a % 65536 := by
  show IntKind.i64.wrap ((BitVec.ofInt 64 a &&& BitVec.ofInt 64 65535).toNat : Int) = _
  rw [BitVec.toNat_and, show (BitVec.ofInt 64 65535).toNat = 65535 from rfl, show (65535 : Nat) = 2 ^ 16 - 1 from rfl, Nat.and_two_pow_sub_one_eq_mod, IntKind.wrap_i64, ofInt_i64_toNat a h1 h2]
  split <;> omega
end Go.Proofs.YtpdojmebloekgaaDoor
