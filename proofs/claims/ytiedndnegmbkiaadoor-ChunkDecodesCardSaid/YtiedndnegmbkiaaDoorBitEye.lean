/- Bits read of bytes, and numbers by their codes. -/
import Derived.Test.YtiedndnegmbkiaaDoorNiceQ
import Derived.Test.YtiedndnegmbkiaaDoorChunkEnc
namespace Go.Proofs.YtiedndnegmbkiaaDoor.Nice
open Go
set_option linter.unusedVariables false
set_option linter.unusedSimpArgs false
set_option maxRecDepth 100000
set_option maxHeartbeats 4000000

/-- Bit i of bytes. -/
def bitB (l : List Int) (i : Nat) : Int := l.getD (i / 8) 0 / 2 ^ (7 - i % 8) % 2
/-- The number of w bits from n on. -/
def numB (l : List Int) (n : Nat) : Nat → Int
  | 0 => 0
  | w + 1 => 2 * numB l n w + bitB l (n + w)
structure Bytes (l : List Int) : Prop where
  n : l.length ≤ 140737488351232
  b : ∀ k, 0 ≤ l.getD k 0 ∧ l.getD k 0 ≤ 255
theorem bitB_bd (l : List Int) (i : Nat) : bitB l i = 0 ∨ bitB l i = 1 := by
  unfold bitB; generalize l.getD (i / 8) 0 / 2 ^ (7 - i % 8) = u; omega
theorem numB_bd (l : List Int) (n w : Nat) : 0 ≤ numB l n w ∧ numB l n w < 2 ^ w := by
  induction w with
  | zero => simp [numB]
  | succ k ih =>
    have := bitB_bd l (n + k)
    rw [numB, Int.pow_succ]
    omega
theorem pow2_le {a b : Nat} (h : a ≤ b) : (2 : Int) ^ a ≤ 2 ^ b := by
  have h2 : 2 ^ a ≤ 2 ^ b := Nat.pow_le_pow_right (by decide) h
  have e : ((2 ^ a : Nat) : Int) = (2 : Int) ^ a := by simp
  have e2 : ((2 ^ b : Nat) : Int) = (2 : Int) ^ b := by simp
  omega
theorem numB_sm (l : List Int) (n : Nat) {j : Nat} (h : j ≤ 58) : isSm (numB l n j) := by
  have := numB_bd l n j
  have h2 := pow2_le h
  unfold isSm
  have : (2 : Int) ^ 58 = 288230376151711744 := by decide
  omega
theorem shr8 {k v : Int} {r : Nat} (h : k = 7 - r) (hr : r < 8) : v.fdiv (2 ^ (min k.toNat 8)) = v / 2 ^ (7 - r) := by
  subst h
  rw [show ((7 : Int) - r).toNat = 7 - r by omega, Nat.min_eq_left (by omega), Int.fdiv_eq_ediv_of_nonneg _ (Int.le_of_lt (Int.pow_pos (by decide)))]
theorem byte_div {x : Int} (h0 : 0 ≤ x) (h1 : x ≤ 255) (r : Nat) : 0 ≤ x / 2 ^ r ∧ x / 2 ^ r ≤ 255 := by
  have hp : (0 : Int) < 2 ^ r := Int.pow_pos (by decide)
  exact ⟨Int.ediv_nonneg h0 (by omega), Int.le_trans (Int.ediv_le_self _ h0) h1⟩
theorem and1 {x : Int} (h0 : 0 ≤ x) (h1 : x ≤ 255) : bits .and .i64 x 1 = x % 2 := i64_and_one x (by omega) (by omega)
theorem or_join {s b : Int} (h0 : 0 ≤ s) (h1 : s < 288230376151711744) (hb : b = 0 ∨ b = 1) : bits .or .i64 (s * 2) b = 2 * s + b := by
  obtain ⟨s, rfl⟩ := Int.eq_ofNat_of_zero_le h0
  obtain ⟨y, rfl⟩ := Int.eq_ofNat_of_zero_le (show 0 ≤ b by omega)
  rw [show (s : Int) * 2 = ((s * 2 : Nat) : Int) by omega, i64_or_nat _ _ (by omega) (by omega), nat_join 1 _ _ (by omega) (by omega)]
  omega
def gok (l : List Int) (n w : Nat) : Bool := decide (n + w ≤ 8 * l.length)
def gval (l : List Int) (n w : Nat) : Int := if n + w ≤ 8 * l.length then numB l n w else 0
def gpos (l : List Int) (n w : Nat) : Nat := if n + w ≤ 8 * l.length then n + w else n

theorem open_any (l : List Int) : Spec Tryd.prog GC 38 [u8V l] [] (fun r ho => r = .ptr 0 0 0 ∧ ho = [some (.cells 92 2 [u8V l, SV.i (0 : Nat)])]) := by
  refine start 6 0 Tryd.func38 rfl rfl rfl rfl ?_
  refine r1 ?_
  refine s1 2 0 1 rfl rfl rfl rfl rfl rfl trivial ?_
  refine e1 8 rfl ?_
  refine keep [0] rfl ?_
  refine r1 ?_
  refine s1 3 8 1 rfl rfl rfl rfl rfl rfl trivial ?_
  refine s1 4 16 2 rfl rfl rfl rfl rfl rfl trivial ?_
  refine s1 5 24 3 rfl rfl rfl rfl rfl rfl trivial ?_
  refine s1 2 32 4 rfl rfl rfl rfl rfl rfl trivial ?_
  refine e1 40 rfl ?_
  refine keep [2] rfl ?_
  refine W_ret ?_
  exact out1 2 (.ptr 0 0 0) (π := [24]) (hout := [some (.cells 92 2 [u8V l, SV.i (0 : Nat)])]) Tryd.results38 rfl rfl rfl rfl ⟨rfl, trivial⟩ ⟨rfl, rfl⟩

theorem left_any (l : List Int) (hl : Bytes l) (n : Nat) (hn : n ≤ 8 * l.length) : Spec Tryd.prog GC 42 [.ptr 0 0 0] [.cells 92 2 [u8V l, SV.i (n : Nat)]] (fun r ho => r = SV.i (8 * l.length - n) ∧ ho = [some (.cells 92 2 [u8V l, SV.i (n : Nat)])]) := by
  obtain ⟨hl1, hl2⟩ := hl
  refine start 14 1 Tryd.func42 rfl rfl rfl rfl ?_
  refine r1 ?_
  refine s1 2 1 1 rfl rfl rfl rfl rfl rfl trivial ?_
  refine e1 9 rfl ?_
  refine keep [0] rfl ?_
  refine rd1 rfl ?_
  refine d1 3 9 1 rfl rfl rfl rfl rfl rfl trivial ?_
  refine d1 4 17 2 rfl rfl rfl rfl rfl rfl trivial ?_
  refine d1 5 25 3 rfl rfl rfl rfl rfl rfl trivial ?_
  refine d1 6 33 4 rfl rfl rfl rfl rfl rfl (by first | trivial | omega | (simp only [List.length_map, List.length_append, List.length_cons, List.length_nil] at *; omega)) ?_
  refine d1 7 41 5 rfl rfl rfl rfl rfl rfl (by first | trivial | omega | (simp only [List.length_map, List.length_append, List.length_cons, List.length_nil] at *; omega)) ?_
  refine dA 8 49 6 rfl rfl rfl rfl rfl rfl rfl rfl rfl (by unfold inRange; omega) ?_
  refine d1 9 57 7 rfl rfl rfl rfl rfl rfl trivial ?_
  refine d1 10 65 8 rfl rfl rfl rfl rfl rfl trivial ?_
  refine d1 11 73 9 rfl rfl rfl rfl rfl rfl trivial ?_
  refine d1 12 81 10 rfl rfl rfl rfl rfl rfl (by first | trivial | omega | (simp only [List.length_map, List.length_append, List.length_cons, List.length_nil] at *; omega)) ?_
  refine dA 13 89 11 rfl rfl rfl rfl rfl rfl rfl rfl rfl (by unfold inRange; omega) ?_
  refine d1 2 97 12 rfl rfl rfl rfl rfl rfl trivial ?_
  refine de1 105 rfl (by kernel_rfl) ?_
  refine keep [2] rfl ?_
  refine W_ret ?_
  exact out1 2 (SV.i (8 * l.length - n)) (π := [0]) (hout := [some (.cells 92 2 [u8V l, SV.i (n : Nat)])]) Tryd.results42 rfl rfl rfl rfl ⟨rfl, trivial⟩ ⟨rfl, rfl⟩

theorem get_ok (l : List Int) (hl : Bytes l) (n : Nat) (hn : n ≤ 8 * l.length) (w : Nat) (hw : w ≤ 59) (hin : n + w ≤ 8 * l.length) : Spec Tryd.prog GC 39 [.ptr 0 0 0, SV.i w] [.cells 92 2 [u8V l, SV.i (n : Nat)]] (fun r ho => r = SV.tup [SV.i (numB l n w), SV.b true] ∧ ho = [some (.cells 92 2 [u8V l, SV.i (n + w : Nat)])]) := by
  have hlb := hl
  obtain ⟨hl1, hl2⟩ := hl
  refine start 46 1 Tryd.func39 rfl rfl rfl rfl ?_
  refine r1 ?_
  refine s1 4 1 1 rfl rfl rfl rfl rfl rfl trivial ?_
  refine s1 5 9 2 rfl rfl rfl rfl rfl rfl trivial ?_
  refine e1 17 rfl ?_
  refine keep [0, 1] rfl ?_
  refine W_seq ?_
  refine r1 ?_
  refine s1 7 17 1 rfl rfl rfl rfl rfl rfl trivial ?_
  refine s1 8 25 2 rfl rfl rfl rfl rfl rfl trivial ?_
  refine c1 (left_any l hlb n hn) [0] [0] 9 33 3 rfl rfl rfl rfl rfl rfl rfl rfl Tryd.func42 rfl rfl rfl rfl ⟨rfl, trivial⟩ rfl rfl ?_
  refine s1 10 41 4 rfl rfl rfl rfl rfl rfl (by first | trivial | omega | (simp only [List.length_map, List.length_append, List.length_cons, List.length_nil] at *; omega)) ?_
  refine e1 49 rfl ?_
  refine keep [0, 1, 10] rfl ?_
  refine q1 rfl (fun hc1 => ?_) (fun hc1 => ?_)
  · skip
    exfalso; simp at hc1; omega
  · skip
    try simp only [decide_eq_true_eq, decide_eq_false_iff_not, Bool.not_eq_true', Bool.not_eq_false', beq_iff_eq, bne_iff_ne, beq_eq_false_iff_ne, Bool.and_eq_true, Bool.or_eq_true, Bool.and_eq_false_iff, Bool.or_eq_false_iff, ge_iff_le, gt_iff_lt, Int.not_lt, Int.not_le, ne_eq, Decidable.not_not, bne_eq_false_iff_eq] at hc1
    refine W_skip ?_
    refine tn ?_
    refine r1 ?_
    refine s1 6 49 1 rfl rfl rfl rfl rfl rfl trivial ?_
    refine e1 57 rfl ?_
    refine keep [0, 1, 6] rfl ?_
    refine W_seq ?_
    refine r1 ?_
    refine s1 11 57 1 rfl rfl rfl rfl rfl rfl trivial ?_
    refine s1 12 65 2 rfl rfl rfl rfl rfl rfl trivial ?_
    refine e1 73 rfl ?_
    refine keep [0, 6, 11, 12] rfl ?_
    refine W_block ?_
    refine loop (α := Nat) 1 (fun j => [(0, .ptr 0 0 0), (6, SV.i (numB l n (j))), (11, SV.i w), (12, SV.i (j))]) (fun j => [some (.cells 92 2 [u8V l, SV.i (n + (j) : Nat)])]) (fun j => (j) ≤ w) (fun j => w - (j)) (((0) : Nat)) [0] (fun _ => rfl) (show (0) ≤ w from (Nat.zero_le _)) rfl ⟨rfl, rfl, rfl, rfl, trivial⟩ ⟨rfl, trivial⟩ (fun j hx => ?_)
    show W _ _ _ ⟨tOf [(0, .ptr 0 0 0), (6, SV.i (numB l n j)), (11, SV.i w), (12, SV.i j)], hOf [some (.cells 92 2 [u8V l, SV.i (n + j : Nat)])], 1⟩
    have hx : j ≤ w := hx
    refine r1 ?_
    refine s1 13 1 1 rfl rfl rfl rfl rfl rfl (by first | trivial | omega | (simp only [List.length_map, List.length_append, List.length_cons, List.length_nil] at *; omega)) ?_
    refine e1 9 rfl ?_
    refine keep [0, 6, 11, 12, 13] rfl ?_
    refine W_seq ?_
    refine q1 rfl (fun hc5 => ?_) (fun hc5 => ?_)
    · skip
      try simp only [decide_eq_true_eq, decide_eq_false_iff_not, Bool.not_eq_true', Bool.not_eq_false', beq_iff_eq, bne_iff_ne, beq_eq_false_iff_ne, Bool.and_eq_true, Bool.or_eq_true, Bool.and_eq_false_iff, Bool.or_eq_false_iff, ge_iff_le, gt_iff_lt, Int.not_lt, Int.not_le, ne_eq, Decidable.not_not, bne_eq_false_iff_eq] at hc5
      have hb := hl2 ((n + j) / 8)
      have hd := byte_div hb.1 hb.2 (7 - (n + j) % 8)
      have hs := numB_sm l n (show j ≤ 58 by omega)
      refine W_skip ?_
      refine tn ?_
      refine W_seq ?_
      refine W_block ?_
      refine rd1 rfl ?_
      refine d1 14 9 1 rfl rfl rfl rfl rfl rfl trivial ?_
      refine d1 15 17 2 rfl rfl rfl rfl rfl rfl (by decide) ?_
      refine val 15 (SV.i (numB l n j * 2)) rfl (congrArg (fun x => SV.d (D.val (Value.int .i64 x))) (shl1 hs)) ?_
      refine d1 16 25 3 rfl rfl rfl rfl rfl rfl trivial ?_
      refine d1 17 33 4 rfl rfl rfl rfl rfl rfl trivial ?_
      refine d1 18 41 5 rfl rfl rfl rfl rfl rfl trivial ?_
      refine d1 19 49 6 rfl rfl rfl rfl rfl rfl (by first | trivial | omega | (simp only [List.length_map, List.length_append, List.length_cons, List.length_nil] at *; omega)) ?_
      refine d1 20 57 7 rfl rfl rfl rfl rfl rfl trivial ?_
      refine d1 21 65 8 rfl rfl rfl rfl rfl rfl trivial ?_
      refine d1 22 73 9 rfl rfl rfl rfl rfl rfl trivial ?_
      refine d1 23 81 10 rfl rfl rfl rfl rfl rfl (by first | trivial | omega | (simp only [List.length_map, List.length_append, List.length_cons, List.length_nil] at *; omega)) ?_
      refine dD 24 89 11 rfl rfl rfl rfl rfl rfl rfl rfl rfl (by omega) ?_
      refine d1 25 97 12 rfl rfl rfl rfl rfl rfl (by constructor <;> omega) ?_
      refine d1 26 105 13 rfl rfl rfl rfl rfl rfl (by omega) ?_
      refine val 26 (.d (.val (.int .u8 (l.getD ((n + j) / 8) 0)))) rfl (by first | rfl | (rw [show (((n + j : Nat) : Int) / 8).toNat = (n + j) / 8 by omega])) ?_
      refine d1 27 113 14 rfl rfl rfl rfl rfl rfl trivial ?_
      refine d1 28 121 15 rfl rfl rfl rfl rfl rfl trivial ?_
      refine d1 29 129 16 rfl rfl rfl rfl rfl rfl trivial ?_
      refine d1 30 137 17 rfl rfl rfl rfl rfl rfl (by first | trivial | omega | (simp only [List.length_map, List.length_append, List.length_cons, List.length_nil] at *; omega)) ?_
      refine dD 31 145 18 rfl rfl rfl rfl rfl rfl rfl rfl rfl (by omega) ?_
      refine dA 32 153 19 rfl rfl rfl rfl rfl rfl rfl rfl rfl (by unfold inRange; omega) ?_
      refine d1 33 161 20 rfl rfl rfl rfl rfl rfl (by omega) ?_
      refine val 33 (.d (.val (.int .u8 ((l.getD ((n + j) / 8) 0) / 2 ^ (7 - (n + j) % 8))))) rfl (congrArg (fun x => SV.d (D.val (Value.int .u8 x))) (shr8 (by omega) (by omega))) ?_
      refine d1 34 169 21 rfl rfl rfl rfl rfl rfl trivial ?_
      refine val 34 (SV.i ((l.getD ((n + j) / 8) 0) / 2 ^ (7 - (n + j) % 8))) rfl (congrArg (fun x => SV.d (D.val (Value.int .i64 x))) (wrap_in ⟨by omega, by omega⟩)) ?_
      refine d1 35 177 22 rfl rfl rfl rfl rfl rfl (by first | trivial | omega | (simp only [List.length_map, List.length_append, List.length_cons, List.length_nil] at *; omega)) ?_
      refine val 35 (SV.i (bitB l (n + j))) rfl (congrArg (fun x => SV.d (D.val (Value.int .i64 x))) (and1 hd.1 hd.2)) ?_
      refine d1 36 185 23 rfl rfl rfl rfl rfl rfl (by first | trivial | omega | (simp only [List.length_map, List.length_append, List.length_cons, List.length_nil] at *; omega)) ?_
      refine val 36 (SV.i (numB l n (j + 1))) rfl (congrArg (fun x => SV.d (D.val (Value.int .i64 x))) (or_join (numB_bd l n j).1 hs.2 (bitB_bd l _))) ?_
      refine d1 6 193 24 rfl rfl rfl rfl rfl rfl trivial ?_
      refine de1 201 rfl (by kernel_rfl) ?_
      refine keep [0, 6, 11, 12] rfl ?_
      refine r0 ?_
      refine s1 37 201 1 rfl rfl rfl rfl rfl rfl trivial ?_
      refine s1 38 209 2 rfl rfl rfl rfl rfl rfl trivial ?_
      refine s1 39 217 3 rfl rfl rfl rfl rfl rfl trivial ?_
      refine s1 40 225 4 rfl rfl rfl rfl rfl rfl (by first | trivial | omega | (simp only [List.length_map, List.length_append, List.length_cons, List.length_nil] at *; omega)) ?_
      refine sA 41 233 5 rfl rfl rfl rfl rfl rfl rfl rfl rfl (by unfold inRange; omega) ?_
      refine s1 42 241 6 rfl rfl rfl rfl rfl rfl trivial ?_
      refine s1 43 249 7 rfl rfl rfl rfl rfl rfl trivial ?_
      refine s0 257 8 rfl rfl rfl rfl rfl (by first | trivial | omega | (simp only [List.length_map, List.length_append, List.length_cons, List.length_nil] at *; omega)) ?_
      refine e1 265 rfl ?_
      refine bn ?_
      refine tn ?_
      refine r0 ?_
      refine sA 44 265 1 rfl rfl rfl rfl rfl rfl rfl rfl rfl (by unfold inRange; omega) ?_
      refine s1 12 273 2 rfl rfl rfl rfl rfl rfl trivial ?_
      refine e1 281 rfl ?_
      refine tn ?_
      exact again ((j + 1 : Nat)) [0] (show (j + 1) ≤ w from (by omega)) (show w - (j + 1) < w - j from (by omega)) rfl ⟨rfl, rfl, rfl, rfl, trivial⟩ ⟨rfl, trivial⟩
    · skip
      try simp only [decide_eq_true_eq, decide_eq_false_iff_not, Bool.not_eq_true', Bool.not_eq_false', beq_iff_eq, bne_iff_ne, beq_eq_false_iff_ne, Bool.and_eq_true, Bool.or_eq_true, Bool.and_eq_false_iff, Bool.or_eq_false_iff, ge_iff_le, gt_iff_lt, Int.not_lt, Int.not_le, ne_eq, Decidable.not_not, bne_eq_false_iff_eq] at hc5
      refine W_exit ?_
      refine tx ?_
      refine tx ?_
      refine bx ?_
      refine tn ?_
      refine r1 ?_
      refine s1 45 9 1 rfl rfl rfl rfl rfl rfl trivial ?_
      refine s1 4 17 2 rfl rfl rfl rfl rfl rfl trivial ?_
      refine s1 5 25 3 rfl rfl rfl rfl rfl rfl trivial ?_
      refine e1 33 rfl ?_
      refine keep [4, 5] rfl ?_
      refine W_ret ?_
      obtain rfl : w = j := (by omega)
      exact out2 4 5 (SV.i (numB l n w)) (SV.b true) (π := [0]) (hout := [some (.cells 92 2 [u8V l, SV.i (n + w : Nat)])]) Tryd.results39 rfl rfl rfl rfl rfl rfl ⟨rfl, trivial⟩ ⟨rfl, rfl⟩

theorem get_short (l : List Int) (hl : Bytes l) (n : Nat) (hn : n ≤ 8 * l.length) (w : Nat) (hw : w ≤ 59) (hin : ¬ n + w ≤ 8 * l.length) : Spec Tryd.prog GC 39 [.ptr 0 0 0, SV.i w] [.cells 92 2 [u8V l, SV.i (n : Nat)]] (fun r ho => r = SV.tup [SV.i 0, SV.b false] ∧ ho = [some (.cells 92 2 [u8V l, SV.i (n : Nat)])]) := by
  have hlb := hl
  obtain ⟨hl1, hl2⟩ := hl
  refine start 46 1 Tryd.func39 rfl rfl rfl rfl ?_
  refine r1 ?_
  refine s1 4 1 1 rfl rfl rfl rfl rfl rfl trivial ?_
  refine s1 5 9 2 rfl rfl rfl rfl rfl rfl trivial ?_
  refine e1 17 rfl ?_
  refine keep [0, 1] rfl ?_
  refine W_seq ?_
  refine r1 ?_
  refine s1 7 17 1 rfl rfl rfl rfl rfl rfl trivial ?_
  refine s1 8 25 2 rfl rfl rfl rfl rfl rfl trivial ?_
  refine c1 (left_any l hlb n hn) [0] [0] 9 33 3 rfl rfl rfl rfl rfl rfl rfl rfl Tryd.func42 rfl rfl rfl rfl ⟨rfl, trivial⟩ rfl rfl ?_
  refine s1 10 41 4 rfl rfl rfl rfl rfl rfl (by first | trivial | omega | (simp only [List.length_map, List.length_append, List.length_cons, List.length_nil] at *; omega)) ?_
  refine e1 49 rfl ?_
  refine keep [0, 1, 10] rfl ?_
  refine q1 rfl (fun hc1 => ?_) (fun hc1 => ?_)
  · skip
    try simp only [decide_eq_true_eq, decide_eq_false_iff_not, Bool.not_eq_true', Bool.not_eq_false', beq_iff_eq, bne_iff_ne, beq_eq_false_iff_ne, Bool.and_eq_true, Bool.or_eq_true, Bool.and_eq_false_iff, Bool.or_eq_false_iff, ge_iff_le, gt_iff_lt, Int.not_lt, Int.not_le, ne_eq, Decidable.not_not, bne_eq_false_iff_eq] at hc1
    refine r1 ?_
    refine s1 4 49 1 rfl rfl rfl rfl rfl rfl trivial ?_
    refine s1 5 57 2 rfl rfl rfl rfl rfl rfl trivial ?_
    refine e1 65 rfl ?_
    refine keep [4, 5] rfl ?_
    refine W_ret ?_
    refine tr ?_
    exact out2 4 5 (SV.i 0) (SV.b false) (π := [0]) (hout := [some (.cells 92 2 [u8V l, SV.i (n : Nat)])]) Tryd.results39 rfl rfl rfl rfl rfl rfl ⟨rfl, trivial⟩ ⟨rfl, rfl⟩
  · skip
    exfalso; simp at hc1; omega

theorem get_any (l : List Int) (hl : Bytes l) (n : Nat) (hn : n ≤ 8 * l.length) (w : Nat) (hw : w ≤ 59) : Spec Tryd.prog GC 39 [.ptr 0 0 0, SV.i w] [.cells 92 2 [u8V l, SV.i (n : Nat)]] (fun r ho => r = SV.tup [SV.i (gval l n w), SV.b (gok l n w)] ∧ ho = [some (.cells 92 2 [u8V l, SV.i (gpos l n w : Nat)])]) := by
  by_cases h : n + w ≤ 8 * l.length
  · simp only [gval, gok, gpos, if_pos h, decide_eq_true h]; exact get_ok l hl n hn w hw h
  · simp only [gval, gok, gpos, if_neg h, decide_eq_false h]; exact get_short l hl n hn w hw h

/-- The ones ahead of a 0, four at most: were there bits enough, how many, where it ends. -/
def zpre (l : List Int) : Nat → Nat → Nat → Bool × Nat × Nat
  | 0, n, k => (true, k, n)
  | f + 1, n, k => if 8 * l.length ≤ n then (false, k, n) else if bitB l n = 0 then (true, k, n + 1) else zpre l f (n + 1) (k + 1)
structure ZG where
  x : Int
  at' : Nat
  e : Int
/-- A number by its code. -/
def zgt (l : List Int) (n : Nat) : ZG :=
  if (zpre l 4 n 0).1 = false then ⟨0, (zpre l 4 n 0).2.2, 5⟩
  else if 8 * l.length < (zpre l 4 n 0).2.2 + clB (zpre l 4 n 0).2.1 then ⟨0, (zpre l 4 n 0).2.2, 5⟩
  else if cls (numB l (zpre l 4 n 0).2.2 (clB (zpre l 4 n 0).2.1)) = (zpre l 4 n 0).2.1 then ⟨zUnf (numB l (zpre l 4 n 0).2.2 (clB (zpre l 4 n 0).2.1)), (zpre l 4 n 0).2.2 + clB (zpre l 4 n 0).2.1, 0⟩
  else ⟨0, (zpre l 4 n 0).2.2 + clB (zpre l 4 n 0).2.1, 4⟩
theorem zgt_short {l : List Int} {n q m : Nat} (h : zpre l 4 n 0 = (false, q, m)) : zgt l n = ⟨0, m, 5⟩ := by unfold zgt; rw [h]; rfl
theorem zgt_short2 {l : List Int} {n q m : Nat} (h : zpre l 4 n 0 = (true, q, m)) (h2 : 8 * l.length < m + clB q) : zgt l n = ⟨0, m, 5⟩ := by unfold zgt; rw [h]; simp only [Bool.true_eq_false, if_false]; rw [if_pos h2]
theorem zgt_form {l : List Int} {n q m : Nat} (h : zpre l 4 n 0 = (true, q, m)) (h2 : ¬ 8 * l.length < m + clB q) (h3 : cls (numB l m (clB q)) ≠ q) : zgt l n = ⟨0, m + clB q, 4⟩ := by unfold zgt; rw [h]; simp only [Bool.true_eq_false, if_false]; rw [if_neg h2, if_neg h3]
theorem zgt_ok {l : List Int} {n q m : Nat} (h : zpre l 4 n 0 = (true, q, m)) (h2 : ¬ 8 * l.length < m + clB q) (h3 : cls (numB l m (clB q)) = q) : zgt l n = ⟨zUnf (numB l m (clB q)), m + clB q, 0⟩ := by unfold zgt; rw [h]; simp only [Bool.true_eq_false, if_false]; rw [if_neg h2, if_pos h3]
theorem zpre_end (l : List Int) (k n : Nat) (h : k < 4) (h2 : 8 * l.length ≤ n) : zpre l (4 - k) n k = (false, k, n) := by
  rw [show 4 - k = (3 - k) + 1 by omega, zpre, if_pos h2]
theorem zpre_zero (l : List Int) (k n : Nat) (h : k < 4) (h2 : ¬ 8 * l.length ≤ n) (h3 : bitB l n = 0) : zpre l (4 - k) n k = (true, k, n + 1) := by
  rw [show 4 - k = (3 - k) + 1 by omega, zpre, if_neg h2, if_pos h3]
theorem zpre_one (l : List Int) (k n : Nat) (h : k < 4) (h2 : ¬ 8 * l.length ≤ n) (h3 : bitB l n ≠ 0) : zpre l (4 - k) n k = zpre l (4 - (k + 1)) (n + 1) (k + 1) := by
  rw [show 4 - k = (4 - (k + 1)) + 1 by omega, zpre, if_neg h2, if_neg h3]
theorem num1 (l : List Int) (n : Nat) : numB l n 1 = bitB l n := by show 2 * 0 + bitB l (n + 0) = _; rw [Nat.add_zero]; omega
def clG : Nat → Nat → D := fun i j => clF 0 (i * 3 + j)
theorem clL_0 {q : Nat} (h : q ≤ 4) : clL.getD (q * 3) 0 = clH q := by
  match q, h with
  | 0, _ | 1, _ | 2, _ | 3, _ | 4, _ => rfl
theorem clL_1 {q : Nat} (h : q ≤ 4) : clL.getD (q * 3 + 1) 0 = clW q := by
  match q, h with
  | 0, _ | 1, _ | 2, _ | 3, _ | 4, _ => rfl
theorem clL_2 {q : Nat} (h : q ≤ 4) : clL.getD (q * 3 + 2) 0 = clB q := by
  match q, h with
  | 0, _ | 1, _ | 2, _ | 3, _ | 4, _ => rfl
theorem clB_59 (q : Nat) : clB q ≤ 59 := by
  unfold clB
  match q with
  | 0 | 1 | 2 | 3 | 4 => decide
  | n + 5 => simp
theorem clH_inj {p q : Nat} (hp : p ≤ 4) (hq : q ≤ 4) (h : clH p = clH q) : p = q := by
  match p, hp, q, hq with
  | 0, _, 0, _ | 1, _, 1, _ | 2, _, 2, _ | 3, _, 3, _ | 4, _, 4, _ => rfl
  | 0, _, 1, _ | 0, _, 2, _ | 0, _, 3, _ | 0, _, 4, _ | 1, _, 0, _ | 1, _, 2, _ | 1, _, 3, _ | 1, _, 4, _ | 2, _, 0, _ | 2, _, 1, _ | 2, _, 3, _ | 2, _, 4, _ | 3, _, 0, _ | 3, _, 1, _ | 3, _, 2, _ | 3, _, 4, _ | 4, _, 0, _ | 4, _, 1, _ | 4, _, 2, _ | 4, _, 3, _ => exact absurd h (by decide)
theorem num59 (l : List Int) (n : Nat) {w : Nat} (h : w ≤ 59) : 0 ≤ numB l n w ∧ numB l n w < 576460752303423488 := by
  have := numB_bd l n w
  have h2 := pow2_le h
  have : (2 : Int) ^ 59 = 576460752303423488 := by decide
  omega
theorem unf_val {x : Int} (h0 : 0 ≤ x) (h1 : x < 576460752303423488) {a b : Int} (ha : a = x / 2) (hb : b = -(x % 2)) : bits .xor .i64 a b = zUnf x := by subst ha; subst hb; exact zUnf_xor x h0 h1
theorem zpre_le (l : List Int) : ∀ f n k, n ≤ 8 * l.length → (zpre l f n k).2.2 ≤ 8 * l.length
  | 0, n, k, h => h
  | f + 1, n, k, h => by
    unfold zpre
    split
    · exact h
    · split
      · show n + 1 ≤ _; omega
      · exact zpre_le l f (n + 1) (k + 1) (by omega)
theorem zgt_le (l : List Int) (n : Nat) (h : n ≤ 8 * l.length) : (zgt l n).at' ≤ 8 * l.length := by
  have := zpre_le l 4 n 0 h
  unfold zgt
  repeat' split
  all_goals (simp only []; omega)
theorem zgt_sm (l : List Int) (n : Nat) : isSm (zgt l n).x := by
  have hb := num59 l (zpre l 4 n 0).2.2 (clB_59 (zpre l 4 n 0).2.1)
  have := zUnf_bd _ hb.1 hb.2
  unfold zgt isSm
  repeat' split
  all_goals (simp only []; omega)

theorem unfold_any (x : Int) (h0 : 0 ≤ x) (h1 : x < 576460752303423488) : Spec Tryd.prog GC 61 [SV.i x] [] (fun r ho => r = SV.tup [SV.i (zUnf x), SV.i 0] ∧ ho = []) := by
  refine start 16 0 Tryd.func61 rfl rfl rfl rfl ?_
  refine r1 ?_
  refine s1 2 0 1 rfl rfl rfl rfl rfl rfl trivial ?_
  refine s1 3 8 2 rfl rfl rfl rfl rfl rfl trivial ?_
  refine e1 16 rfl ?_
  refine keep [0] rfl ?_
  refine W_seq ?_
  refine r1 ?_
  refine s1 4 16 1 rfl rfl rfl rfl rfl rfl trivial ?_
  refine s1 5 24 2 rfl rfl rfl rfl rfl rfl (by first | trivial | omega | (simp only [List.length_map, List.length_append, List.length_cons, List.length_nil] at *; omega)) ?_
  refine s1 6 32 3 rfl rfl rfl rfl rfl rfl trivial ?_
  refine ask 6 rfl (fun hg1_6 => ?_) (fun hg1_6 => ?_)
  · skip
    try simp only [decide_eq_true_eq, decide_eq_false_iff_not, Bool.not_eq_true', Bool.not_eq_false', beq_iff_eq, bne_iff_ne, beq_eq_false_iff_ne, Bool.and_eq_true, Bool.or_eq_true, Bool.and_eq_false_iff, Bool.or_eq_false_iff, ge_iff_le, gt_iff_lt, Int.not_lt, Int.not_le, ne_eq, Decidable.not_not, bne_eq_false_iff_eq] at hg1_6
    refine g0 2 false 6 7 4 rfl rfl rfl rfl rfl rfl ?_
    refine g0 2 false 6 8 5 rfl rfl rfl rfl rfl rfl ?_
    refine s1 9 56 6 rfl rfl rfl rfl rfl rfl trivial ?_
    refine e1 64 rfl ?_
    refine keep [0, 9] rfl ?_
    refine q1 rfl (fun hc1 => ?_) (fun hc1 => ?_)
    · skip
      exfalso; simp at hc1; omega
    · skip
      exact absurd hc1 (by decide)
  · skip
    try simp only [decide_eq_true_eq, decide_eq_false_iff_not, Bool.not_eq_true', Bool.not_eq_false', beq_iff_eq, bne_iff_ne, beq_eq_false_iff_ne, Bool.and_eq_true, Bool.or_eq_true, Bool.and_eq_false_iff, Bool.or_eq_false_iff, ge_iff_le, gt_iff_lt, Int.not_lt, Int.not_le, ne_eq, Decidable.not_not, bne_eq_false_iff_eq] at hg1_6
    refine g1 2 false 6 7 4 rfl rfl rfl rfl rfl ?_
    refine s1 7 40 4 rfl rfl rfl rfl rfl rfl trivial ?_
    refine g1 2 false 6 8 5 rfl rfl rfl rfl rfl ?_
    refine s1 8 48 5 rfl rfl rfl rfl rfl rfl (by first | trivial | omega | (simp only [List.length_map, List.length_append, List.length_cons, List.length_nil] at *; omega)) ?_
    refine s1 9 56 6 rfl rfl rfl rfl rfl rfl trivial ?_
    refine e1 64 rfl ?_
    refine keep [0, 9] rfl ?_
    refine q1 rfl (fun hc1 => ?_) (fun hc1 => ?_)
    · skip
      exfalso; simp at hc1; omega
    · skip
      try simp only [decide_eq_true_eq, decide_eq_false_iff_not, Bool.not_eq_true', Bool.not_eq_false', beq_iff_eq, bne_iff_ne, beq_eq_false_iff_ne, Bool.and_eq_true, Bool.or_eq_true, Bool.and_eq_false_iff, Bool.or_eq_false_iff, ge_iff_le, gt_iff_lt, Int.not_lt, Int.not_le, ne_eq, Decidable.not_not, bne_eq_false_iff_eq] at hc1
      refine W_skip ?_
      refine tn ?_
      refine r1 ?_
      refine s1 10 64 1 rfl rfl rfl rfl rfl rfl trivial ?_
      refine s1 11 72 2 rfl rfl rfl rfl rfl rfl (by decide) ?_
      refine val 11 (SV.i (x / 2)) rfl (congrArg (fun x => SV.d (D.val (Value.int .i64 x))) (shr_val (k := 1) (q := 1) rfl (by decide))) ?_
      refine s1 12 80 3 rfl rfl rfl rfl rfl rfl trivial ?_
      refine s1 13 88 4 rfl rfl rfl rfl rfl rfl (by first | trivial | omega | (simp only [List.length_map, List.length_append, List.length_cons, List.length_nil] at *; omega)) ?_
      refine val 13 (SV.i (x % 2)) rfl (congrArg (fun x => SV.d (D.val (Value.int .i64 x))) (i64_and_one x (by omega) (by omega))) ?_
      refine s1 14 96 5 rfl rfl rfl rfl rfl rfl trivial ?_
      refine val 14 (SV.i (-(x % 2))) rfl (congrArg (fun x => SV.d (D.val (Value.int .i64 x))) (show IntKind.i64.wrap (0 - x % 2) = _ from by rw [Int.zero_sub]; exact wrap_in ⟨by omega, by omega⟩)) ?_
      refine s1 15 104 6 rfl rfl rfl rfl rfl rfl (by first | trivial | omega | (simp only [List.length_map, List.length_append, List.length_cons, List.length_nil] at *; omega)) ?_
      refine val 15 (SV.i (zUnf x)) rfl (congrArg (fun x => SV.d (D.val (Value.int .i64 x))) (unf_val h0 h1 rfl rfl)) ?_
      refine s1 2 112 7 rfl rfl rfl rfl rfl rfl trivial ?_
      refine s1 3 120 8 rfl rfl rfl rfl rfl rfl trivial ?_
      refine e1 128 rfl ?_
      refine keep [2, 3] rfl ?_
      refine W_ret ?_
      exact out2 2 3 (SV.i (zUnf x)) (SV.i 0) (π := []) (hout := []) Tryd.results61 rfl rfl rfl rfl rfl rfl trivial ⟨rfl, rfl⟩

theorem zget_any (l : List Int) (hl : Bytes l) (n : Nat) (hn : n ≤ 8 * l.length) : Spec Tryd.prog GC 40 [.ptr 0 0 0] [.cells 92 2 [u8V l, SV.i (n : Nat)]] (fun r ho => r = SV.tup [SV.i (zgt l n).x, SV.i (zgt l n).e] ∧ ho = [some (.cells 92 2 [u8V l, SV.i ((zgt l n).at' : Nat)])]) := by
  have hlb := hl
  obtain ⟨hl1, hl2⟩ := hl
  refine start 43 1 Tryd.func40 rfl rfl rfl rfl ?_
  refine r1 ?_
  refine s1 2 1 1 rfl rfl rfl rfl rfl rfl trivial ?_
  refine s1 3 9 2 rfl rfl rfl rfl rfl rfl trivial ?_
  refine e1 17 rfl ?_
  refine keep [0] rfl ?_
  refine r1 ?_
  refine s1 4 17 1 rfl rfl rfl rfl rfl rfl trivial ?_
  refine e1 25 rfl ?_
  refine keep [0, 4] rfl ?_
  refine W_seq ?_
  refine W_block ?_
  refine loop (α := Nat) 1 (fun k => [(0, .ptr 0 0 0), (4, SV.i (k))]) (fun k => [some (.cells 92 2 [u8V l, SV.i (n + (k) : Nat)])]) (fun k => (k) ≤ 4 ∧ n + (k) ≤ 8 * l.length ∧ zpre l 4 n 0 = zpre l (4 - (k)) (n + (k)) (k)) (fun k => 4 - (k)) (((0) : Nat)) [0] (fun _ => rfl) (show (0) ≤ 4 ∧ n + (0) ≤ 8 * l.length ∧ zpre l 4 n 0 = zpre l (4 - (0)) (n + (0)) (0) from ⟨Nat.zero_le _, hn, rfl⟩) rfl ⟨rfl, rfl, trivial⟩ ⟨rfl, trivial⟩ (fun k hx => ?_)
  show W _ _ _ ⟨tOf [(0, .ptr 0 0 0), (4, SV.i k)], hOf [some (.cells 92 2 [u8V l, SV.i (n + k : Nat)])], 1⟩
  have hx : k ≤ 4 ∧ n + k ≤ 8 * l.length ∧ zpre l 4 n 0 = zpre l (4 - k) (n + k) k := hx
  obtain ⟨hk, hkn, hz⟩ := hx
  refine W_seq ?_
  refine r1 ?_
  refine s1 9 1 1 rfl rfl rfl rfl rfl rfl trivial ?_
  refine s1 10 9 2 rfl rfl rfl rfl rfl rfl (by first | trivial | omega | (simp only [List.length_map, List.length_append, List.length_cons, List.length_nil] at *; omega)) ?_
  refine e1 17 rfl ?_
  refine keep [0, 4, 10] rfl ?_
  refine q1 rfl (fun hc2 => ?_) (fun hc2 => ?_)
  · skip
    try simp only [decide_eq_true_eq, decide_eq_false_iff_not, Bool.not_eq_true', Bool.not_eq_false', beq_iff_eq, bne_iff_ne, beq_eq_false_iff_ne, Bool.and_eq_true, Bool.or_eq_true, Bool.and_eq_false_iff, Bool.or_eq_false_iff, ge_iff_le, gt_iff_lt, Int.not_lt, Int.not_le, ne_eq, Decidable.not_not, bne_eq_false_iff_eq] at hc2
    refine W_skip ?_
    refine tn ?_
    refine W_block ?_
    refine r1 ?_
    refine s1 12 17 1 rfl rfl rfl rfl rfl rfl trivial ?_
    refine c1 (get_any l hlb (n + k) hkn 1 (by decide)) [0] [0] 13 25 2 rfl rfl rfl rfl rfl rfl rfl rfl Tryd.func39 rfl rfl rfl rfl ⟨rfl, trivial⟩ rfl rfl ?_
    refine s1 11 33 3 rfl rfl rfl rfl rfl rfl trivial ?_
    refine s1 14 41 4 rfl rfl rfl rfl rfl rfl trivial ?_
    refine s1 15 49 5 rfl rfl rfl rfl rfl rfl trivial ?_
    refine s1 5 57 6 rfl rfl rfl rfl rfl rfl trivial ?_
    refine s1 6 65 7 rfl rfl rfl rfl rfl rfl trivial ?_
    refine e1 73 rfl ?_
    refine keep [0, 4, 5, 6] rfl ?_
    refine W_seq ?_
    refine r1 ?_
    refine s1 16 73 1 rfl rfl rfl rfl rfl rfl trivial ?_
    refine s1 17 81 2 rfl rfl rfl rfl rfl rfl trivial ?_
    refine e1 89 rfl ?_
    refine keep [0, 4, 5, 17] rfl ?_
    refine q1 rfl (fun hc4 => ?_) (fun hc4 => ?_)
    · skip
      try simp only [decide_eq_true_eq, decide_eq_false_iff_not, Bool.not_eq_true', Bool.not_eq_false', beq_iff_eq, bne_iff_ne, beq_eq_false_iff_ne, Bool.and_eq_true, Bool.or_eq_true, Bool.and_eq_false_iff, Bool.or_eq_false_iff, ge_iff_le, gt_iff_lt, Int.not_lt, Int.not_le, ne_eq, Decidable.not_not, bne_eq_false_iff_eq] at hc4
      refine r1 ?_
      refine s1 2 89 1 rfl rfl rfl rfl rfl rfl trivial ?_
      refine s1 3 97 2 rfl rfl rfl rfl rfl rfl trivial ?_
      refine e1 105 rfl ?_
      refine keep [2, 3] rfl ?_
      refine W_ret ?_
      refine tr ?_
      refine br ?_
      refine tr ?_
      refine br ?_
      refine tr ?_
      have hzz := zgt_short (hz.trans (zpre_end l k (n + k) (by omega) (by simp [gok] at hc4; omega)))
      have hp : gpos l (n + k) 1 = n + k := (by unfold gpos; rw [if_neg (by simp [gok] at hc4; omega)])
      exact out2 2 3 (SV.i (zgt l n).x) (SV.i (zgt l n).e) (π := [0]) (hout := [some (.cells 92 2 [u8V l, SV.i ((zgt l n).at' : Nat)])]) Tryd.results40 rfl rfl (by rw [hzz]; rfl) (by rw [hzz]; rfl) rfl rfl ⟨(by rw [hzz]; first | rfl | (simp only []; rw [← hp]; rfl) | (rw [hp]; rfl)), trivial⟩ ⟨rfl, rfl⟩
    · skip
      try simp only [decide_eq_true_eq, decide_eq_false_iff_not, Bool.not_eq_true', Bool.not_eq_false', beq_iff_eq, bne_iff_ne, beq_eq_false_iff_ne, Bool.and_eq_true, Bool.or_eq_true, Bool.and_eq_false_iff, Bool.or_eq_false_iff, ge_iff_le, gt_iff_lt, Int.not_lt, Int.not_le, ne_eq, Decidable.not_not, bne_eq_false_iff_eq] at hc4
      have hok : n + k + 1 ≤ 8 * l.length := (by simp [gok] at hc4; exact hc4)
      have hgp : gpos l (n + k) 1 = n + k + 1 := if_pos hok
      have hgv : gval l (n + k) 1 = bitB l (n + k) := (by unfold gval; rw [if_pos hok, num1])
      refine W_skip ?_
      refine tn ?_
      refine W_seq ?_
      refine r1 ?_
      refine s1 18 89 1 rfl rfl rfl rfl rfl rfl trivial ?_
      refine s1 19 97 2 rfl rfl rfl rfl rfl rfl (by first | trivial | omega | (simp only [List.length_map, List.length_append, List.length_cons, List.length_nil] at *; omega)) ?_
      refine e1 105 rfl ?_
      refine keep [0, 4, 19] rfl ?_
      refine q1 rfl (fun hc6 => ?_) (fun hc6 => ?_)
      · skip
        try simp only [decide_eq_true_eq, decide_eq_false_iff_not, Bool.not_eq_true', Bool.not_eq_false', beq_iff_eq, bne_iff_ne, beq_eq_false_iff_ne, Bool.and_eq_true, Bool.or_eq_true, Bool.and_eq_false_iff, Bool.or_eq_false_iff, ge_iff_le, gt_iff_lt, Int.not_lt, Int.not_le, ne_eq, Decidable.not_not, bne_eq_false_iff_eq] at hc6
        have hbit : bitB l (n + k) = 0 := (by rw [← hgv]; simpa using hc6)
        refine W_exit ?_
        refine tx ?_
        refine bo rfl ?_
        refine tx ?_
        refine bx ?_
        refine tn ?_
        obtain ⟨q, m, hq, hz, hm, hek, hem⟩ : ∃ q m : Nat, q ≤ 4 ∧ zpre l 4 n 0 = (true, q, m) ∧ m ≤ 8 * l.length ∧ (k : Int) = q ∧ gpos l (n + k) 1 = m := ⟨k, n + k + 1, by omega, hz.trans (zpre_zero l k (n + k) (by omega) (by omega) hbit), hok, rfl, hgp⟩
        refine cval 4 (SV.i q) rfl (by rw [hek]) ?_
        refine chval 0 (.cells 92 2 [u8V l, SV.i (m : Nat)]) rfl (by first | (rw [hem]; done) | (rw [hem]; rfl)) ?_
        have h59 := clB_59 q
        refine r1 ?_
        refine s1 23 105 1 rfl rfl rfl rfl rfl rfl trivial ?_
        refine s1 24 113 2 rfl rfl rfl rfl rfl rfl trivial ?_
        refine s1w (.vp 3 5 clG q 0) 25 121 3 rfl rfl rfl rfl rfl rfl (by constructor <;> omega) (fun M ρ z h => h.rowed (by rw [Int.toNat_natCast, Nat.zero_add]; rfl) (by decide)) ?_
        refine s1 26 129 4 rfl rfl rfl rfl rfl rfl trivial ?_
        refine s1 27 137 5 rfl rfl rfl rfl rfl rfl (by omega) ?_
        refine val 27 (SV.i (clB q)) rfl (congrArg (fun x => SV.d (D.val (Value.int .i64 x))) (clL_2 hq)) ?_
        refine c1 (get_any l hlb m hm (clB q) h59) [0] [0] 28 145 6 rfl rfl rfl rfl rfl rfl rfl rfl Tryd.func39 rfl rfl rfl rfl ⟨rfl, trivial⟩ rfl rfl ?_
        refine s1 22 153 7 rfl rfl rfl rfl rfl rfl trivial ?_
        refine s1 29 161 8 rfl rfl rfl rfl rfl rfl trivial ?_
        refine s1 30 169 9 rfl rfl rfl rfl rfl rfl trivial ?_
        refine s1 7 177 10 rfl rfl rfl rfl rfl rfl trivial ?_
        refine s1 8 185 11 rfl rfl rfl rfl rfl rfl trivial ?_
        refine e1 193 rfl ?_
        refine keep [4, 7, 8] rfl ?_
        refine W_seq ?_
        refine r1 ?_
        refine s1 31 193 1 rfl rfl rfl rfl rfl rfl trivial ?_
        refine s1 32 201 2 rfl rfl rfl rfl rfl rfl trivial ?_
        refine e1 209 rfl ?_
        refine keep [4, 7, 32] rfl ?_
        refine q1 rfl (fun hc9 => ?_) (fun hc9 => ?_)
        · skip
          try simp only [decide_eq_true_eq, decide_eq_false_iff_not, Bool.not_eq_true', Bool.not_eq_false', beq_iff_eq, bne_iff_ne, beq_eq_false_iff_ne, Bool.and_eq_true, Bool.or_eq_true, Bool.and_eq_false_iff, Bool.or_eq_false_iff, ge_iff_le, gt_iff_lt, Int.not_lt, Int.not_le, ne_eq, Decidable.not_not, bne_eq_false_iff_eq] at hc9
          refine r1 ?_
          refine s1 2 209 1 rfl rfl rfl rfl rfl rfl trivial ?_
          refine s1 3 217 2 rfl rfl rfl rfl rfl rfl trivial ?_
          refine e1 225 rfl ?_
          refine keep [2, 3] rfl ?_
          refine W_ret ?_
          refine tr ?_
          have hzz := zgt_short2 hz (by simp [gok] at hc9; omega)
          have hp : gpos l m (clB q) = m := (by unfold gpos; rw [if_neg (by simp [gok] at hc9; omega)])
          exact out2 2 3 (SV.i (zgt l n).x) (SV.i (zgt l n).e) (π := [0]) (hout := [some (.cells 92 2 [u8V l, SV.i ((zgt l n).at' : Nat)])]) Tryd.results40 rfl rfl (by rw [hzz]; rfl) (by rw [hzz]; rfl) rfl rfl ⟨(by rw [hzz]; first | rfl | (simp only []; rw [← hp]; rfl) | (rw [hp]; rfl)), trivial⟩ ⟨rfl, rfl⟩
        · skip
          try simp only [decide_eq_true_eq, decide_eq_false_iff_not, Bool.not_eq_true', Bool.not_eq_false', beq_iff_eq, bne_iff_ne, beq_eq_false_iff_ne, Bool.and_eq_true, Bool.or_eq_true, Bool.and_eq_false_iff, Bool.or_eq_false_iff, ge_iff_le, gt_iff_lt, Int.not_lt, Int.not_le, ne_eq, Decidable.not_not, bne_eq_false_iff_eq] at hc9
          have hok : m + clB q ≤ 8 * l.length := (by simp [gok] at hc9; exact hc9)
          have hp : gpos l m (clB q) = m + clB q := if_pos hok
          have hgv : gval l m (clB q) = (numB l m (clB q)) := if_pos hok
          have hX := num59 l m h59
          refine W_skip ?_
          refine tn ?_
          refine W_seq ?_
          refine cval 7 (SV.i (numB l m (clB q))) rfl (by rw [hgv]) ?_
          refine chval 0 (.cells 92 2 [u8V l, SV.i (m + clB q : Nat)]) rfl (by rw [hp]; rfl) ?_
          refine rd1 rfl ?_
          refine d1 33 209 1 rfl rfl rfl rfl rfl rfl trivial ?_
          refine dc1 (fit_any (numB l m (clB q)) hX.1) [] [] 34 217 2 rfl rfl rfl rfl rfl rfl rfl rfl Tryd.func58 rfl rfl rfl rfl trivial rfl rfl ?_
          refine d1 35 225 3 rfl rfl rfl rfl rfl rfl trivial ?_
          refine d1w (.vp 3 5 clG q 0) 36 233 4 rfl rfl rfl rfl rfl rfl (by constructor <;> omega) (fun M ρ z h => h.rowed (by rw [Int.toNat_natCast, Nat.zero_add]; rfl) (by decide)) ?_
          refine d1 37 241 5 rfl rfl rfl rfl rfl rfl (by omega) ?_
          refine val 37 (clsS q) rfl (by unfold clsS; rw [← clL_0 hq, ← clL_1 hq, ← clL_2 hq]; rfl) ?_
          refine dEq (op := .neq) 38 249 6 rfl rfl rfl rfl rfl rfl rfl rfl rfl (by kernel_rfl) (by kernel_rfl) rfl (.inr ⟨rfl, rfl⟩) ?_
          refine de1 257 rfl (by kernel_rfl) ?_
          refine keep [7, 38] rfl ?_
          refine q1 rfl (fun hc11 => ?_) (fun hc11 => ?_)
          · skip
            try simp only [decide_eq_true_eq, decide_eq_false_iff_not, Bool.not_eq_true', Bool.not_eq_false', beq_iff_eq, bne_iff_ne, beq_eq_false_iff_ne, Bool.and_eq_true, Bool.or_eq_true, Bool.and_eq_false_iff, Bool.or_eq_false_iff, ge_iff_le, gt_iff_lt, Int.not_lt, Int.not_le, ne_eq, Decidable.not_not, bne_eq_false_iff_eq] at hc11
            refine r1 ?_
            refine s1 2 257 1 rfl rfl rfl rfl rfl rfl trivial ?_
            refine s1 3 265 2 rfl rfl rfl rfl rfl rfl trivial ?_
            refine e1 273 rfl ?_
            refine keep [2, 3] rfl ?_
            refine W_ret ?_
            refine tr ?_
            have hzz := zgt_form hz (by omega) (fun e => by rw [e] at hc11; simp at hc11)
            exact out2 2 3 (SV.i (zgt l n).x) (SV.i (zgt l n).e) (π := [0]) (hout := [some (.cells 92 2 [u8V l, SV.i ((zgt l n).at' : Nat)])]) Tryd.results40 rfl rfl (by rw [hzz]; rfl) (by rw [hzz]; rfl) rfl rfl ⟨(by rw [hzz]; first | rfl | (simp only []; rw [← hp]; rfl) | (rw [hp]; rfl)), trivial⟩ ⟨rfl, rfl⟩
          · skip
            try simp only [decide_eq_true_eq, decide_eq_false_iff_not, Bool.not_eq_true', Bool.not_eq_false', beq_iff_eq, bne_iff_ne, beq_eq_false_iff_ne, Bool.and_eq_true, Bool.or_eq_true, Bool.and_eq_false_iff, Bool.or_eq_false_iff, ge_iff_le, gt_iff_lt, Int.not_lt, Int.not_le, ne_eq, Decidable.not_not, bne_eq_false_iff_eq] at hc11
            have hcl : cls (numB l m (clB q)) = q := clH_inj (by have := cls_lt (numB l m (clB q)); omega) hq (by simp at hc11; exact hc11.1)
            refine W_skip ?_
            refine tn ?_
            refine r1 ?_
            refine s1 39 257 1 rfl rfl rfl rfl rfl rfl trivial ?_
            refine c1 (unfold_any (numB l m (clB q)) hX.1 hX.2) [] [] 40 265 2 rfl rfl rfl rfl rfl rfl rfl rfl Tryd.func61 rfl rfl rfl rfl trivial rfl rfl ?_
            refine s1 41 273 3 rfl rfl rfl rfl rfl rfl trivial ?_
            refine s1 42 281 4 rfl rfl rfl rfl rfl rfl trivial ?_
            refine s1 2 289 5 rfl rfl rfl rfl rfl rfl trivial ?_
            refine s1 3 297 6 rfl rfl rfl rfl rfl rfl trivial ?_
            refine e1 305 rfl ?_
            refine keep [2, 3] rfl ?_
            refine W_ret ?_
            have hzz := zgt_ok hz (by omega) hcl
            exact out2 2 3 (SV.i (zgt l n).x) (SV.i (zgt l n).e) (π := [0]) (hout := [some (.cells 92 2 [u8V l, SV.i ((zgt l n).at' : Nat)])]) Tryd.results40 rfl rfl (by rw [hzz]; rfl) (by rw [hzz]; rfl) rfl rfl ⟨(by rw [hzz]; first | rfl | (simp only []; rw [← hp]; rfl) | (rw [hp]; rfl)), trivial⟩ ⟨rfl, rfl⟩
      · skip
        try simp only [decide_eq_true_eq, decide_eq_false_iff_not, Bool.not_eq_true', Bool.not_eq_false', beq_iff_eq, bne_iff_ne, beq_eq_false_iff_ne, Bool.and_eq_true, Bool.or_eq_true, Bool.and_eq_false_iff, Bool.or_eq_false_iff, ge_iff_le, gt_iff_lt, Int.not_lt, Int.not_le, ne_eq, Decidable.not_not, bne_eq_false_iff_eq] at hc6
        have hbit : bitB l (n + k) ≠ 0 := (by rw [← hgv]; simpa using hc6)
        refine W_skip ?_
        refine tn ?_
        refine chval 0 (.cells 92 2 [u8V l, SV.i (n + (k + 1) : Nat)]) rfl (by rw [hgp]; rfl) ?_
        refine r0 ?_
        refine s1 20 105 1 rfl rfl rfl rfl rfl rfl trivial ?_
        refine sA 21 113 2 rfl rfl rfl rfl rfl rfl rfl rfl rfl (by unfold inRange; omega) ?_
        refine s1 4 121 3 rfl rfl rfl rfl rfl rfl trivial ?_
        refine e1 129 rfl ?_
        refine bn ?_
        refine tn ?_
        exact again ((k + 1 : Nat)) [0] (show (k + 1) ≤ 4 ∧ n + (k + 1) ≤ 8 * l.length ∧ zpre l 4 n 0 = zpre l (4 - (k + 1)) (n + (k + 1)) (k + 1) from ⟨by omega, by omega, hz.trans (zpre_one l k (n + k) (by omega) (by omega) hbit)⟩) (show 4 - (k + 1) < 4 - k from (by omega)) rfl ⟨rfl, rfl, trivial⟩ ⟨rfl, trivial⟩
  · skip
    try simp only [decide_eq_true_eq, decide_eq_false_iff_not, Bool.not_eq_true', Bool.not_eq_false', beq_iff_eq, bne_iff_ne, beq_eq_false_iff_ne, Bool.and_eq_true, Bool.or_eq_true, Bool.and_eq_false_iff, Bool.or_eq_false_iff, ge_iff_le, gt_iff_lt, Int.not_lt, Int.not_le, ne_eq, Decidable.not_not, bne_eq_false_iff_eq] at hc2
    refine W_exit ?_
    refine tx ?_
    refine tx ?_
    refine bx ?_
    refine tn ?_
    obtain ⟨q, m, hq, hz, hm, hek, hem⟩ : ∃ q m : Nat, q ≤ 4 ∧ zpre l 4 n 0 = (true, q, m) ∧ m ≤ 8 * l.length ∧ (k : Int) = q ∧ n + k = m := ⟨4, n + k, by omega, by rw [hz, show k = 4 by omega]; rfl, hkn, by omega, rfl⟩
    refine cval 4 (SV.i q) rfl (by rw [hek]) ?_
    refine chval 0 (.cells 92 2 [u8V l, SV.i (m : Nat)]) rfl (by first | (rw [hem]; done) | (rw [hem]; rfl)) ?_
    have h59 := clB_59 q
    refine r1 ?_
    refine s1 23 17 1 rfl rfl rfl rfl rfl rfl trivial ?_
    refine s1 24 25 2 rfl rfl rfl rfl rfl rfl trivial ?_
    refine s1w (.vp 3 5 clG q 0) 25 33 3 rfl rfl rfl rfl rfl rfl (by constructor <;> omega) (fun M ρ z h => h.rowed (by rw [Int.toNat_natCast, Nat.zero_add]; rfl) (by decide)) ?_
    refine s1 26 41 4 rfl rfl rfl rfl rfl rfl trivial ?_
    refine s1 27 49 5 rfl rfl rfl rfl rfl rfl (by omega) ?_
    refine val 27 (SV.i (clB q)) rfl (congrArg (fun x => SV.d (D.val (Value.int .i64 x))) (clL_2 hq)) ?_
    refine c1 (get_any l hlb m hm (clB q) h59) [0] [0] 28 57 6 rfl rfl rfl rfl rfl rfl rfl rfl Tryd.func39 rfl rfl rfl rfl ⟨rfl, trivial⟩ rfl rfl ?_
    refine s1 22 65 7 rfl rfl rfl rfl rfl rfl trivial ?_
    refine s1 29 73 8 rfl rfl rfl rfl rfl rfl trivial ?_
    refine s1 30 81 9 rfl rfl rfl rfl rfl rfl trivial ?_
    refine s1 7 89 10 rfl rfl rfl rfl rfl rfl trivial ?_
    refine s1 8 97 11 rfl rfl rfl rfl rfl rfl trivial ?_
    refine e1 105 rfl ?_
    refine keep [4, 7, 8] rfl ?_
    refine W_seq ?_
    refine r1 ?_
    refine s1 31 105 1 rfl rfl rfl rfl rfl rfl trivial ?_
    refine s1 32 113 2 rfl rfl rfl rfl rfl rfl trivial ?_
    refine e1 121 rfl ?_
    refine keep [4, 7, 32] rfl ?_
    refine q1 rfl (fun hc9 => ?_) (fun hc9 => ?_)
    · skip
      try simp only [decide_eq_true_eq, decide_eq_false_iff_not, Bool.not_eq_true', Bool.not_eq_false', beq_iff_eq, bne_iff_ne, beq_eq_false_iff_ne, Bool.and_eq_true, Bool.or_eq_true, Bool.and_eq_false_iff, Bool.or_eq_false_iff, ge_iff_le, gt_iff_lt, Int.not_lt, Int.not_le, ne_eq, Decidable.not_not, bne_eq_false_iff_eq] at hc9
      refine r1 ?_
      refine s1 2 121 1 rfl rfl rfl rfl rfl rfl trivial ?_
      refine s1 3 129 2 rfl rfl rfl rfl rfl rfl trivial ?_
      refine e1 137 rfl ?_
      refine keep [2, 3] rfl ?_
      refine W_ret ?_
      refine tr ?_
      have hzz := zgt_short2 hz (by simp [gok] at hc9; omega)
      have hp : gpos l m (clB q) = m := (by unfold gpos; rw [if_neg (by simp [gok] at hc9; omega)])
      exact out2 2 3 (SV.i (zgt l n).x) (SV.i (zgt l n).e) (π := [0]) (hout := [some (.cells 92 2 [u8V l, SV.i ((zgt l n).at' : Nat)])]) Tryd.results40 rfl rfl (by rw [hzz]; rfl) (by rw [hzz]; rfl) rfl rfl ⟨(by rw [hzz]; first | rfl | (simp only []; rw [← hp]; rfl) | (rw [hp]; rfl)), trivial⟩ ⟨rfl, rfl⟩
    · skip
      try simp only [decide_eq_true_eq, decide_eq_false_iff_not, Bool.not_eq_true', Bool.not_eq_false', beq_iff_eq, bne_iff_ne, beq_eq_false_iff_ne, Bool.and_eq_true, Bool.or_eq_true, Bool.and_eq_false_iff, Bool.or_eq_false_iff, ge_iff_le, gt_iff_lt, Int.not_lt, Int.not_le, ne_eq, Decidable.not_not, bne_eq_false_iff_eq] at hc9
      have hok : m + clB q ≤ 8 * l.length := (by simp [gok] at hc9; exact hc9)
      have hp : gpos l m (clB q) = m + clB q := if_pos hok
      have hgv : gval l m (clB q) = (numB l m (clB q)) := if_pos hok
      have hX := num59 l m h59
      refine W_skip ?_
      refine tn ?_
      refine W_seq ?_
      refine cval 7 (SV.i (numB l m (clB q))) rfl (by rw [hgv]) ?_
      refine chval 0 (.cells 92 2 [u8V l, SV.i (m + clB q : Nat)]) rfl (by rw [hp]; rfl) ?_
      refine rd1 rfl ?_
      refine d1 33 121 1 rfl rfl rfl rfl rfl rfl trivial ?_
      refine dc1 (fit_any (numB l m (clB q)) hX.1) [] [] 34 129 2 rfl rfl rfl rfl rfl rfl rfl rfl Tryd.func58 rfl rfl rfl rfl trivial rfl rfl ?_
      refine d1 35 137 3 rfl rfl rfl rfl rfl rfl trivial ?_
      refine d1w (.vp 3 5 clG q 0) 36 145 4 rfl rfl rfl rfl rfl rfl (by constructor <;> omega) (fun M ρ z h => h.rowed (by rw [Int.toNat_natCast, Nat.zero_add]; rfl) (by decide)) ?_
      refine d1 37 153 5 rfl rfl rfl rfl rfl rfl (by omega) ?_
      refine val 37 (clsS q) rfl (by unfold clsS; rw [← clL_0 hq, ← clL_1 hq, ← clL_2 hq]; rfl) ?_
      refine dEq (op := .neq) 38 161 6 rfl rfl rfl rfl rfl rfl rfl rfl rfl (by kernel_rfl) (by kernel_rfl) rfl (.inr ⟨rfl, rfl⟩) ?_
      refine de1 169 rfl (by kernel_rfl) ?_
      refine keep [7, 38] rfl ?_
      refine q1 rfl (fun hc11 => ?_) (fun hc11 => ?_)
      · skip
        try simp only [decide_eq_true_eq, decide_eq_false_iff_not, Bool.not_eq_true', Bool.not_eq_false', beq_iff_eq, bne_iff_ne, beq_eq_false_iff_ne, Bool.and_eq_true, Bool.or_eq_true, Bool.and_eq_false_iff, Bool.or_eq_false_iff, ge_iff_le, gt_iff_lt, Int.not_lt, Int.not_le, ne_eq, Decidable.not_not, bne_eq_false_iff_eq] at hc11
        refine r1 ?_
        refine s1 2 169 1 rfl rfl rfl rfl rfl rfl trivial ?_
        refine s1 3 177 2 rfl rfl rfl rfl rfl rfl trivial ?_
        refine e1 185 rfl ?_
        refine keep [2, 3] rfl ?_
        refine W_ret ?_
        refine tr ?_
        have hzz := zgt_form hz (by omega) (fun e => by rw [e] at hc11; simp at hc11)
        exact out2 2 3 (SV.i (zgt l n).x) (SV.i (zgt l n).e) (π := [0]) (hout := [some (.cells 92 2 [u8V l, SV.i ((zgt l n).at' : Nat)])]) Tryd.results40 rfl rfl (by rw [hzz]; rfl) (by rw [hzz]; rfl) rfl rfl ⟨(by rw [hzz]; first | rfl | (simp only []; rw [← hp]; rfl) | (rw [hp]; rfl)), trivial⟩ ⟨rfl, rfl⟩
      · skip
        try simp only [decide_eq_true_eq, decide_eq_false_iff_not, Bool.not_eq_true', Bool.not_eq_false', beq_iff_eq, bne_iff_ne, beq_eq_false_iff_ne, Bool.and_eq_true, Bool.or_eq_true, Bool.and_eq_false_iff, Bool.or_eq_false_iff, ge_iff_le, gt_iff_lt, Int.not_lt, Int.not_le, ne_eq, Decidable.not_not, bne_eq_false_iff_eq] at hc11
        have hcl : cls (numB l m (clB q)) = q := clH_inj (by have := cls_lt (numB l m (clB q)); omega) hq (by simp at hc11; exact hc11.1)
        refine W_skip ?_
        refine tn ?_
        refine r1 ?_
        refine s1 39 169 1 rfl rfl rfl rfl rfl rfl trivial ?_
        refine c1 (unfold_any (numB l m (clB q)) hX.1 hX.2) [] [] 40 177 2 rfl rfl rfl rfl rfl rfl rfl rfl Tryd.func61 rfl rfl rfl rfl trivial rfl rfl ?_
        refine s1 41 185 3 rfl rfl rfl rfl rfl rfl trivial ?_
        refine s1 42 193 4 rfl rfl rfl rfl rfl rfl trivial ?_
        refine s1 2 201 5 rfl rfl rfl rfl rfl rfl trivial ?_
        refine s1 3 209 6 rfl rfl rfl rfl rfl rfl trivial ?_
        refine e1 217 rfl ?_
        refine keep [2, 3] rfl ?_
        refine W_ret ?_
        have hzz := zgt_ok hz (by omega) hcl
        exact out2 2 3 (SV.i (zgt l n).x) (SV.i (zgt l n).e) (π := [0]) (hout := [some (.cells 92 2 [u8V l, SV.i ((zgt l n).at' : Nat)])]) Tryd.results40 rfl rfl (by rw [hzz]; rfl) (by rw [hzz]; rfl) rfl rfl ⟨(by rw [hzz]; first | rfl | (simp only []; rw [← hp]; rfl) | (rw [hp]; rfl)), trivial⟩ ⟨rfl, rfl⟩

end Go.Proofs.YtiedndnegmbkiaaDoor.Nice
