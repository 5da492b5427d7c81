/- Numbers as bits, and bits as bytes, as plain functions on lists. No program is in sight. -/
import Derived.Test.YtpdojmebloekgaaDoorZBits
import Derived.WalkKit
namespace Go.Proofs.YtpdojmebloekgaaDoor
open Go Go.RowKit

/-- The bits of a number, the highest first. -/
def bitsOf : Nat → Int → List Int
  | 0, _ => []
  | w + 1, v => v / 2 ^ w % 2 :: bitsOf w v
theorem bitsOf_length (w : Nat) (v : Int) : (bitsOf w v).length = w := by induction w with
  | zero => rfl
  | succ w ih => simp [bitsOf, ih]
/-- Is all of a list 0 or 1? -/
def AllBits (L : List Int) : Prop := ∀ x ∈ L, x = 0 ∨ x = 1
theorem allBits_nil : AllBits [] := by simp [AllBits]
theorem AllBits.append {L M : List Int} (h : AllBits L) (k : AllBits M) : AllBits (L ++ M) := by
  intro x hx
  rcases List.mem_append.1 hx with hx | hx
  · exact h x hx
  · exact k x hx
theorem AllBits.take {L : List Int} (h : AllBits L) (k : Nat) : AllBits (L.take k) := fun x hx => h x (List.mem_of_mem_take hx)
theorem bitsOf_bits (w : Nat) (v : Int) : AllBits (bitsOf w v) := by
  induction w with
  | zero => exact allBits_nil
  | succ w ih =>
    intro x hx
    rcases List.mem_cons.1 hx with rfl | hx
    · generalize v / 2 ^ w = u; omega
    · exact ih x hx
theorem AllBits.getD {L : List Int} (h : AllBits L) (i : Nat) : L.getD i 0 = 0 ∨ L.getD i 0 = 1 := by
  rcases Nat.lt_or_ge i L.length with hi | hi
  · simpa [List.getD, List.getElem?_eq_getElem hi] using h _ (List.getElem_mem hi)
  · simp [List.getD, List.getElem?_eq_none hi]
theorem bitsOf_get (w j : Nat) (v : Int) (h : j < w) : (bitsOf w v)[j]? = some (v / 2 ^ (w - 1 - j) % 2) := by
  induction w generalizing j with
  | zero => omega
  | succ w ih =>
    cases j with
    | zero => simp [bitsOf]
    | succ j =>
      simp only [bitsOf, List.getElem?_cons_succ]
      rw [ih j (by omega), show w - 1 - j = w + 1 - 1 - (j + 1) by omega]
theorem bitsOf_take (w j : Nat) (v : Int) (h : j < w) : (bitsOf w v).take (j + 1) = (bitsOf w v).take j ++ [v / 2 ^ (w - 1 - j) % 2] := by
  rw [List.take_add_one, bitsOf_get w j v h]; rfl

/-- Byte j of bits. -/
def packByte (L : List Int) (j : Nat) : Int :=
  L.getD (8 * j) 0 * 128 + L.getD (8 * j + 1) 0 * 64 + L.getD (8 * j + 2) 0 * 32 + L.getD (8 * j + 3) 0 * 16 + L.getD (8 * j + 4) 0 * 8 + L.getD (8 * j + 5) 0 * 4 + L.getD (8 * j + 6) 0 * 2 + L.getD (8 * j + 7) 0
/-- The bytes of bits. -/
def pack (L : List Int) : List Int := (List.range ((L.length + 7) / 8)).map (packByte L)
theorem pack_length (L : List Int) : (pack L).length = (L.length + 7) / 8 := by simp [pack]
theorem pack_nil : pack [] = [] := rfl
theorem packByte_bd (L : List Int) (h : AllBits L) (j : Nat) : 0 ≤ packByte L j ∧ packByte L j ≤ 255 := by
  have h0 := h.getD (8 * j); have h1 := h.getD (8 * j + 1); have h2 := h.getD (8 * j + 2); have h3 := h.getD (8 * j + 3)
  have h4 := h.getD (8 * j + 4); have h5 := h.getD (8 * j + 5); have h6 := h.getD (8 * j + 6); have h7 := h.getD (8 * j + 7)
  unfold packByte; omega
theorem pack_bd (L : List Int) (h : AllBits L) : ∀ x ∈ pack L, 0 ≤ x ∧ x ≤ 255 := by
  intro x hx
  obtain ⟨j, _, rfl⟩ := List.mem_map.1 hx
  exact packByte_bd L h j
theorem getD_snoc (L : List Int) (b : Int) (i : Nat) : (L ++ [b]).getD i 0 = if i < L.length then L.getD i 0 else if i = L.length then b else 0 := by
  rcases Nat.lt_or_ge i L.length with hi | hi
  · rw [if_pos hi]; simp [List.getD, List.getElem?_append_left hi]
  · rw [if_neg (by omega)]
    by_cases he : i = L.length
    · subst he; simp [List.getD]
    · rw [if_neg he]; simp [List.getD, List.getElem?_eq_none (show (L ++ [b]).length ≤ i by simp; omega)]
theorem getD_over (L : List Int) (i : Nat) (h : L.length ≤ i) : L.getD i 0 = 0 := by simp [List.getD, List.getElem?_eq_none h]
/-- A byte that is whole, or not the last, stays as it is. -/
theorem packByte_other (L : List Int) (b : Int) (j : Nat) (h : j ≠ L.length / 8) : packByte (L ++ [b]) j = packByte L j := by
  unfold packByte
  simp only [getD_snoc]
  rcases Nat.lt_or_ge j (L.length / 8) with hj | hj
  · simp only [if_pos (show 8 * j < L.length by omega), if_pos (show 8 * j + 1 < L.length by omega), if_pos (show 8 * j + 2 < L.length by omega), if_pos (show 8 * j + 3 < L.length by omega), if_pos (show 8 * j + 4 < L.length by omega), if_pos (show 8 * j + 5 < L.length by omega), if_pos (show 8 * j + 6 < L.length by omega), if_pos (show 8 * j + 7 < L.length by omega)]
  · simp only [if_neg (show ¬ 8 * j < L.length by omega), if_neg (show ¬ 8 * j + 1 < L.length by omega), if_neg (show ¬ 8 * j + 2 < L.length by omega), if_neg (show ¬ 8 * j + 3 < L.length by omega), if_neg (show ¬ 8 * j + 4 < L.length by omega), if_neg (show ¬ 8 * j + 5 < L.length by omega), if_neg (show ¬ 8 * j + 6 < L.length by omega), if_neg (show ¬ 8 * j + 7 < L.length by omega),
      if_neg (show ¬ 8 * j = L.length by omega), if_neg (show ¬ 8 * j + 1 = L.length by omega), if_neg (show ¬ 8 * j + 2 = L.length by omega), if_neg (show ¬ 8 * j + 3 = L.length by omega), if_neg (show ¬ 8 * j + 4 = L.length by omega), if_neg (show ¬ 8 * j + 5 = L.length by omega), if_neg (show ¬ 8 * j + 6 = L.length by omega), if_neg (show ¬ 8 * j + 7 = L.length by omega)]
    simp only [getD_over L (8 * j) (by omega), getD_over L (8 * j + 1) (by omega), getD_over L (8 * j + 2) (by omega), getD_over L (8 * j + 3) (by omega), getD_over L (8 * j + 4) (by omega), getD_over L (8 * j + 5) (by omega), getD_over L (8 * j + 6) (by omega), getD_over L (8 * j + 7) (by omega)]
theorem getD_snoc8 (L : List Int) (b : Int) (q r i : Nat) (h : L.length = 8 * q + r) : (L ++ [b]).getD (8 * q + i) 0 = if i < r then L.getD (8 * q + i) 0 else if i = r then b else 0 := by
  rw [getD_snoc, h]
  by_cases h1 : i < r
  · rw [if_pos h1, if_pos (by omega)]
  · rw [if_neg h1, if_neg (by omega)]
    by_cases h2 : i = r
    · rw [if_pos h2, if_pos (by omega)]
    · rw [if_neg h2, if_neg (by omega)]
theorem getD_over8 (L : List Int) (q r i : Nat) (h : L.length = 8 * q + r) (hi : r ≤ i) : L.getD (8 * q + i) 0 = 0 := getD_over L _ (by omega)
theorem packByte_def0 (L : List Int) (j : Nat) : packByte L j =
  L.getD (8 * j + 0) 0 * 128 + L.getD (8 * j + 1) 0 * 64 + L.getD (8 * j + 2) 0 * 32 + L.getD (8 * j + 3) 0 * 16 + L.getD (8 * j + 4) 0 * 8 + L.getD (8 * j + 5) 0 * 4 + L.getD (8 * j + 6) 0 * 2 + L.getD (8 * j + 7) 0 := rfl
/-- The last byte: one bit more, and the bits behind it were 0. -/
theorem packByte_last (L : List Int) (hL : AllBits L) (b : Int) (q r : Nat) (h : L.length = 8 * q + r) (hr : r < 8) :
    packByte (L ++ [b]) q = packByte L q + b * 2 ^ (7 - r) ∧ packByte L q % 2 ^ (8 - r) = 0 ∧ 0 ≤ packByte L q ∧ packByte L q ≤ 256 - 2 ^ (8 - r) := by
  have h0 := hL.getD (8 * q + 0); have h1 := hL.getD (8 * q + 1); have h2 := hL.getD (8 * q + 2); have h3 := hL.getD (8 * q + 3)
  have h4 := hL.getD (8 * q + 4); have h5 := hL.getD (8 * q + 5); have h6 := hL.getD (8 * q + 6); have h7 := hL.getD (8 * q + 7)
  have z0 := getD_over8 L q r 0 h; have z1 := getD_over8 L q r 1 h; have z2 := getD_over8 L q r 2 h; have z3 := getD_over8 L q r 3 h
  have z4 := getD_over8 L q r 4 h; have z5 := getD_over8 L q r 5 h; have z6 := getD_over8 L q r 6 h; have z7 := getD_over8 L q r 7 h
  rw [packByte_def0, packByte_def0]
  simp only [getD_snoc8 L b q r _ h]
  generalize L.getD (8 * q + 0) 0 = a0 at *
  generalize L.getD (8 * q + 1) 0 = a1 at *
  generalize L.getD (8 * q + 2) 0 = a2 at *
  generalize L.getD (8 * q + 3) 0 = a3 at *
  generalize L.getD (8 * q + 4) 0 = a4 at *
  generalize L.getD (8 * q + 5) 0 = a5 at *
  generalize L.getD (8 * q + 6) 0 = a6 at *
  generalize L.getD (8 * q + 7) 0 = a7 at *
  have e : r = 0 ∨ r = 1 ∨ r = 2 ∨ r = 3 ∨ r = 4 ∨ r = 5 ∨ r = 6 ∨ r = 7 := by omega
  rcases e with rfl | rfl | rfl | rfl | rfl | rfl | rfl | rfl <;> simp at * <;> omega
theorem pack_get (L : List Int) (j : Nat) : (pack L)[j]? = if j < (L.length + 7) / 8 then some (packByte L j) else none := by
  unfold pack
  rw [List.getElem?_map]
  by_cases h : j < (L.length + 7) / 8
  · rw [if_pos h, List.getElem?_range h]; rfl
  · rw [if_neg h, List.getElem?_eq_none (by simpa using h)]; rfl
/-- The bytes ahead of the next bit: a byte more where the last one is full. -/
def packRoom (L : List Int) : List Int := if L.length % 8 = 0 then pack L ++ [0] else pack L
theorem packRoom_length (L : List Int) : (packRoom L).length = L.length / 8 + 1 := by
  unfold packRoom; split <;> simp [pack_length] <;> omega
theorem packRoom_get (L : List Int) (j : Nat) (h : j < L.length / 8 + 1) : (packRoom L)[j]? = some (packByte L j) := by
  unfold packRoom
  split
  · next h8 =>
    rcases Nat.lt_or_ge j (L.length / 8) with hj | hj
    · rw [List.getElem?_append_left (by rw [pack_length]; omega), pack_get, if_pos (by omega)]
    · have : j = L.length / 8 := by omega
      subst this
      rw [List.getElem?_append_right (by rw [pack_length]; omega), pack_length, show L.length / 8 - (L.length + 7) / 8 = 0 by omega]
      have : packByte L (L.length / 8) = 0 := by
        unfold packByte
        simp only [getD_over L (8 * (L.length / 8)) (by omega), getD_over L (8 * (L.length / 8) + 1) (by omega), getD_over L (8 * (L.length / 8) + 2) (by omega), getD_over L (8 * (L.length / 8) + 3) (by omega), getD_over L (8 * (L.length / 8) + 4) (by omega), getD_over L (8 * (L.length / 8) + 5) (by omega), getD_over L (8 * (L.length / 8) + 6) (by omega), getD_over L (8 * (L.length / 8) + 7) (by omega)]
        rfl
      rw [this]; rfl
  · next h8 => rw [pack_get, if_pos (by omega)]
theorem pack_snoc (L : List Int) (hL : AllBits L) (b : Int) : pack (L ++ [b]) = (packRoom L).set (L.length / 8) (packByte L (L.length / 8) + b * 2 ^ (7 - L.length % 8)) := by
  apply List.ext_getElem?
  intro j
  rw [pack_get, List.length_append, List.length_cons, List.length_nil, List.getElem?_set, packRoom_length]
  by_cases hj : j < L.length / 8 + 1
  · rw [if_pos (by omega)]
    by_cases he : L.length / 8 = j
    · subst he
      rw [if_pos rfl, if_pos hj, (packByte_last L hL b (L.length / 8) (L.length % 8) (by omega) (by omega)).1]
    · rw [if_neg he, packRoom_get L j hj, packByte_other L b j (by omega)]
  · rw [if_neg (by omega), if_neg (by omega), List.getElem?_eq_none (by rw [packRoom_length]; omega)]
theorem packRoom_bd (L : List Int) (h : AllBits L) : ∀ x ∈ packRoom L, 0 ≤ x ∧ x ≤ 255 := by
  intro x hx
  obtain ⟨j, hj, rfl⟩ := List.mem_iff_getElem.1 hx
  rw [packRoom_length] at hj
  have := packRoom_get L j hj
  rw [List.getElem?_eq_getElem (by rw [packRoom_length]; exact hj)] at this
  injection this with this
  rw [this]
  exact packByte_bd L h j
/-- A bit put in by 'or', as the program does. -/
theorem pack_or (L : List Int) (hL : AllBits L) (b : Int) (hb : b = 0 ∨ b = 1) :
    bits .or .u8 (packByte L (L.length / 8)) (b * 2 ^ (7 - L.length % 8)) = packByte L (L.length / 8) + b * 2 ^ (7 - L.length % 8) ∧ 0 ≤ b * 2 ^ (7 - L.length % 8) ∧ b * 2 ^ (7 - L.length % 8) < 256 := by
  obtain ⟨_, h2, h3, h4⟩ := packByte_last L hL b (L.length / 8) (L.length % 8) (by omega) (by omega)
  generalize packByte L (L.length / 8) = x at *
  have hr : L.length % 8 < 8 := by omega
  generalize L.length % 8 = r at *
  have e : r = 0 ∨ r = 1 ∨ r = 2 ∨ r = 3 ∨ r = 4 ∨ r = 5 ∨ r = 6 ∨ r = 7 := by omega
  have key : ∀ (m : Nat) (y : Int), 0 ≤ x → x ≤ 255 → x % 2 ^ m = 0 → 0 ≤ y → y < 2 ^ m → m ≤ 8 → bits .or .u8 x y = x + y := by
    intro m y hx0 hx1 hxm hy0 hy1 hm
    have hp : (2 : Int) ^ m ≤ 256 := by
      have : m = 0 ∨ m = 1 ∨ m = 2 ∨ m = 3 ∨ m = 4 ∨ m = 5 ∨ m = 6 ∨ m = 7 ∨ m = 8 := by omega
      rcases this with rfl | rfl | rfl | rfl | rfl | rfl | rfl | rfl | rfl <;> decide
    obtain ⟨X, rfl⟩ := Int.eq_ofNat_of_zero_le hx0
    obtain ⟨Y, rfl⟩ := Int.eq_ofNat_of_zero_le hy0
    rw [u8_or_nat _ _ (by omega) (by omega), nat_join m X Y (by exact_mod_cast hxm) (by exact_mod_cast hy1)]
    omega
  rcases e with rfl | rfl | rfl | rfl | rfl | rfl | rfl | rfl
  · refine ⟨key 8 _ h3 ?_ h2 ?_ ?_ ?_, ?_, ?_⟩ <;> simp at * <;> omega
  · refine ⟨key 7 _ h3 ?_ h2 ?_ ?_ ?_, ?_, ?_⟩ <;> simp at * <;> omega
  · refine ⟨key 6 _ h3 ?_ h2 ?_ ?_ ?_, ?_, ?_⟩ <;> simp at * <;> omega
  · refine ⟨key 5 _ h3 ?_ h2 ?_ ?_ ?_, ?_, ?_⟩ <;> simp at * <;> omega
  · refine ⟨key 4 _ h3 ?_ h2 ?_ ?_ ?_, ?_, ?_⟩ <;> simp at * <;> omega
  · refine ⟨key 3 _ h3 ?_ h2 ?_ ?_ ?_, ?_, ?_⟩ <;> simp at * <;> omega
  · refine ⟨key 2 _ h3 ?_ h2 ?_ ?_ ?_, ?_, ?_⟩ <;> simp at * <;> omega
  · refine ⟨key 1 _ h3 ?_ h2 ?_ ?_ ?_, ?_, ?_⟩ <;> simp at * <;> omega
theorem div_pow_bd (v : Int) (k : Nat) (h1 : -9223372036854775808 ≤ v) (h2 : v < 9223372036854775808) : -9223372036854775808 ≤ v / 2 ^ k ∧ v / 2 ^ k < 9223372036854775808 := by
  have hp : (0 : Int) < 2 ^ k := Int.pow_pos (by decide)
  generalize (2 : Int) ^ k = p at *
  constructor
  · apply Int.le_ediv_of_mul_le hp
    omega
  · apply Int.ediv_lt_of_lt_mul hp
    omega
/-- The byte that Put stores. -/
theorem pen_byte (M : List Int) (hM : AllBits M) (v : Int) (q : Nat) (h1 : -9223372036854775808 ≤ v) (h2 : v < 9223372036854775808) :
    bits .or .u8 (packByte M (M.length / 8)) (bits .and .i64 (v / 2 ^ q) 1 % 256 * 2 ^ (7 - M.length % 8) % 256) = packByte M (M.length / 8) + v / 2 ^ q % 2 * 2 ^ (7 - M.length % 8) ∧
    0 ≤ packByte M (M.length / 8) + v / 2 ^ q % 2 * 2 ^ (7 - M.length % 8) ∧ packByte M (M.length / 8) + v / 2 ^ q % 2 * 2 ^ (7 - M.length % 8) ≤ 255 := by
  have hd := div_pow_bd v q h1 h2
  rw [i64_and_one _ hd.1 hd.2]
  have hb : v / 2 ^ q % 2 = 0 ∨ v / 2 ^ q % 2 = 1 := by generalize v / 2 ^ q = u; omega
  generalize v / 2 ^ q % 2 = b at *
  have hp := pack_or M hM b hb
  have hn : AllBits (M ++ [b]) := hM.append (by intro x hx; simp at hx; subst hx; exact hb)
  have hl := packByte_last M hM b (M.length / 8) (M.length % 8) (by omega) (by omega)
  have hbd := packByte_bd (M ++ [b]) hn (M.length / 8)
  rw [show b % 256 = b by omega, show b * 2 ^ (7 - M.length % 8) % 256 = b * 2 ^ (7 - M.length % 8) from Int.emod_eq_of_lt hp.2.1 hp.2.2, hp.1]
  rw [hl.1] at hbd
  exact ⟨rfl, hbd⟩
end Go.Proofs.YtpdojmebloekgaaDoor
