/- Bits put behind bits, and codes of numbers. -/
import Derived.Test.YtpdojmebloekgaaDoorProg
import Derived.Test.YtpdojmebloekgaaDoorZCoH
import Derived.Test.YtpdojmebloekgaaDoorZPackPlain
import Derived.Test.YtpdojmebloekgaaDoorZZigPlain
namespace Go.Proofs.YtpdojmebloekgaaDoor.Nice.Co
open Go
set_option linter.unusedVariables false
set_option linter.unusedSimpArgs false
set_option maxRecDepth 100000
set_option maxHeartbeats 4000000

def u8F (l : List Int) : Nat → Nat → D := fun i _ => .val (.int .u8 (l.getD i 0))
def u8V (l : List Int) : SV := .d (.vec 1 l.length (u8F l))
theorem room_get (M : List Int) (j : Nat) (h : j < M.length / 8 + 1) : (packRoom M).getD j 0 = packByte M j := by rw [List.getD, packRoom_get M j h]; rfl
theorem room_cat {M : List Int} (h : M.length % 8 = 0) (i c : Nat) (hi : i < (pack M).length + 1) (hc : c < 1) : catR (u8F (pack M)) (pack M).length (litR 1 [.val (.int .u8 0)]) i c = u8F (packRoom M) i c := by
  obtain rfl : c = 0 := by omega
  have e : packRoom M = pack M ++ [0] := by unfold packRoom; rw [if_pos h]
  unfold catR u8F
  rw [e]
  by_cases hlt : i < (pack M).length
  · rw [if_pos hlt]; simp [List.getD, List.getElem?_append_left hlt]
  · obtain rfl : i = (pack M).length := by omega
    rw [if_neg (Nat.lt_irrefl _), Nat.sub_self]
    have : (pack M ++ [0]).getD (pack M).length 0 = 0 := by simp [List.getD]
    rw [this]; rfl
theorem room_same {M : List Int} (h : ¬ M.length % 8 = 0) : packRoom M = pack M := by unfold packRoom; rw [if_neg h]
theorem room_set {M : List Int} (hM : AllBits M) (b x : Int) (hx : x = packByte M (M.length / 8) + b * 2 ^ (7 - M.length % 8)) (i c : Nat) (hi : i < (packRoom M).length) (hc : c < 1) :
    updR (u8F (packRoom M)) (M.length / 8) 0 [.val (.int .u8 x)] i c = u8F (pack (M ++ [b])) i c := by
  obtain rfl : c = 0 := by omega
  subst hx
  rw [pack_snoc M hM b]
  unfold updR u8F
  by_cases h : i = M.length / 8
  · subst h
    simp [List.getD, hi]
  · rw [if_neg (fun e => h e.1)]
    rw [packRoom_length] at hi
    simp [List.getD, Ne.symm h]
theorem room_len {M : List Int} (b : Int) : (packRoom M).length = (pack (M ++ [b])).length := by rw [packRoom_length, pack_length]; simp; omega
theorem shr_val {k v : Int} {q : Nat} (h : k = q) (hq : q ≤ 64) : v.fdiv (2 ^ (min k.toNat 64)) = v / 2 ^ q := by
  subst h
  rw [Int.toNat_natCast, Nat.min_eq_left hq, Int.fdiv_eq_ediv_of_nonneg _ (Int.le_of_lt (Int.pow_pos (by decide)))]
theorem bit_01 (v : Int) (q : Nat) : v / 2 ^ q % 2 = 0 ∨ v / 2 ^ q % 2 = 1 := by generalize v / 2 ^ q = u; omega
theorem and_bit {v : Int} (hv : inRange v) (q : Nat) : IntKind.u8.wrap (bits .and .i64 (v / 2 ^ q) 1) = v / 2 ^ q % 2 := by
  unfold inRange at hv
  have hd := div_pow_bd v q (by omega) (by omega)
  rw [i64_and_one _ hd.1 hd.2]
  have := bit_01 v q
  generalize v / 2 ^ q % 2 = b at *
  rcases this with rfl | rfl <;> decide
theorem shl_bit {b k : Int} {r : Nat} (hb : b = 0 ∨ b = 1) (hr : r < 8) (hk : k = 7 - r) : IntKind.u8.wrap (b * 2 ^ (min k.toNat 8)) = b * 2 ^ (7 - r) := by
  subst hk
  have e : r = 0 ∨ r = 1 ∨ r = 2 ∨ r = 3 ∨ r = 4 ∨ r = 5 ∨ r = 6 ∨ r = 7 := by omega
  rcases hb with rfl | rfl <;> rcases e with rfl | rfl | rfl | rfl | rfl | rfl | rfl | rfl <;> decide

def clL : List Int := [0, 1, 0, 2, 2, 6, 6, 3, 12, 14, 4, 24, 15, 4, 59]
def clF : Nat → Nat → D := fun _ c => .val (.int .i64 (clL.getD c 0))
def GC : Nat → SV
  | 0 => .vp 15 1 clF 0 0
  | _ => .any
def cls (x : Int) : Nat := if x = 0 then 0 else if x < 64 then 1 else if x < 4096 then 2 else if x < 16777216 then 3 else 4
def clH (n : Nat) : Int := [0, 2, 6, 14, 15].getD n 0
def clW (n : Nat) : Nat := [1, 2, 3, 4, 4].getD n 0
def clB (n : Nat) : Nat := [0, 6, 12, 24, 59].getD n 0
def clsS (n : Nat) : SV := .agg [SV.i (clH n), SV.i (clW n), SV.i (clB n)]
theorem cls_lt (x : Int) : cls x < 5 := by unfold cls; repeat' split <;> try omega
theorem clW_le (n : Nat) : clW n ≤ 60 := by
  unfold clW
  match n with
  | 0 | 1 | 2 | 3 | 4 => decide
  | n + 5 => simp
theorem clB_le (n : Nat) : clB n ≤ 60 := by
  unfold clB
  match n with
  | 0 | 1 | 2 | 3 | 4 => decide
  | n + 5 => simp
theorem clH_in (n : Nat) : inRange (clH n) := by
  unfold clH inRange
  match n with
  | 0 | 1 | 2 | 3 | 4 => decide
  | n + 5 => simp
def zput (L : List Int) (n : Int) : List Int := (L ++ bitsOf (clW (cls (zFold n))) (clH (cls (zFold n)))) ++ bitsOf (clB (cls (zFold n))) (zFold n)
def zbits (n : Int) : List Int := bitsOf (clW (cls (zFold n))) (clH (cls (zFold n))) ++ bitsOf (clB (cls (zFold n))) (zFold n)
theorem zput_eq (L : List Int) (n : Int) : zput L n = L ++ zbits n := by unfold zput zbits; rw [List.append_assoc]
theorem zput_bits {L : List Int} (h : AllBits L) (n : Int) : AllBits (zput L n) := (h.append (bitsOf_bits _ _)).append (bitsOf_bits _ _)
theorem zput_len (L : List Int) (n : Int) : (zput L n).length ≤ L.length + 120 := by
  unfold zput
  rw [List.length_append, List.length_append, bitsOf_length, bitsOf_length]
  have := clW_le (cls (zFold n)); have := clB_le (cls (zFold n)); omega
def isSm (n : Int) : Prop := -288230376151711744 ≤ n ∧ n < 288230376151711744
theorem fold_xor {n : Int} (h : isSm n) {a b : Int} (ha : a = n * 2) (hb : b = n / 9223372036854775808) : bits .xor .i64 a b = zFold n := by subst ha; subst hb; exact zFold_xor n h.1 h.2
theorem shl1 {n : Int} (h : isSm n) : IntKind.i64.wrap (n * 2 ^ (min (1 : Int).toNat 64)) = n * 2 := by
  have : (2 : Int) ^ (min (1 : Int).toNat 64) = 2 := rfl
  rw [this]; obtain ⟨h1, h2⟩ := h; exact wrap_in ⟨by omega, by omega⟩
theorem shr63 (n : Int) : n.fdiv (2 ^ (min (63 : Int).toNat 64)) = n / 9223372036854775808 := shr_val (k := 63) (q := 63) rfl (by decide)

theorem put_any (L : List Int) (hL : AllBits L) (hlen : L.length ≤ 1000000) (w : Nat) (v : Int) (hw : w ≤ 60) (hv : inRange v) : Spec Tryd.prog GC 30 [.ptr 0 0 0, SV.i w, SV.i v] [.cells 65 2 [.sl 1 0 (pack L).length, SV.i L.length], .rows 5 1 (pack L).length (u8F (pack L))] (fun r ho => r = SV.tup [] ∧ ho = [some (.cells 65 2 [.sl 2 0 (pack (L ++ bitsOf w v)).length, SV.i (L ++ bitsOf w v).length]), none, some (.rows 5 1 (pack (L ++ bitsOf w v)).length (u8F (pack (L ++ bitsOf w v))))]) := by
  refine start 60 2 Tryd.func30 rfl rfl rfl rfl ?_
  refine r1 ?_
  refine s1 7 2 1 rfl rfl rfl rfl rfl rfl trivial ?_
  refine sA 8 10 2 rfl rfl rfl rfl rfl rfl rfl rfl rfl (by unfold inRange; omega) ?_
  refine s1 6 18 3 rfl rfl rfl rfl rfl rfl trivial ?_
  refine e1 26 rfl ?_
  refine keep [0, 2, 6] rfl ?_
  refine W_block ?_
  refine rename 1 rfl rfl ?_
  refine loop (α := Nat × List Int × Int) 3 (fun z => [(0, .ptr 0 0 0), (2, SV.i v), (6, SV.i (z.2.2))]) (fun z => [some (.cells 65 2 [.sl 2 0 (pack (z.2.1)).length, SV.i (z.2.1).length]), none, some (.rows 5 1 (pack (z.2.1)).length (u8F (pack (z.2.1))))]) (fun z => (z.1) ≤ w ∧ (z.2.1) = L ++ (bitsOf w v).take (z.1) ∧ (z.2.2) = w - 1 - (z.1)) (fun z => w - (z.1)) (((0, L, (w : Int) - 1) : Nat × List Int × Int)) [0, 1, 26] (fun _ => rfl) (show (0) ≤ w ∧ (L) = L ++ (bitsOf w v).take (0) ∧ ((w : Int) - 1) = w - 1 - (0) from ⟨Nat.zero_le _, by simp, by simp⟩) rfl ⟨rfl, rfl, rfl, trivial⟩ ⟨rfl, rfl, trivial⟩ (fun z hx => ?_)
  obtain ⟨j, M, k⟩ := z
  show W _ _ _ ⟨tOf [(0, .ptr 0 0 0), (2, SV.i v), (6, SV.i k)], hOf [some (.cells 65 2 [.sl 2 0 (pack M).length, SV.i M.length]), none, some (.rows 5 1 (pack M).length (u8F (pack M)))], 3⟩
  have hx : j ≤ w ∧ M = L ++ (bitsOf w v).take j ∧ k = w - 1 - j := hx
  obtain ⟨hj, hM, hk⟩ := hx
  have hA : AllBits M := (by rw [hM]; exact hL.append ((bitsOf_bits w v).take j))
  have hMl : M.length ≤ 1000060 := (by rw [hM, List.length_append, List.length_take, bitsOf_length]; omega)
  have hpl : (pack M).length ≤ 200000 := (by rw [pack_length]; omega)
  have hrl := packRoom_length M
  refine W_seq ?_
  refine r1 ?_
  refine s1 9 3 1 rfl rfl rfl rfl rfl rfl trivial ?_
  refine s1 10 11 2 rfl rfl rfl rfl rfl rfl (by first | trivial | omega) ?_
  refine e1 19 rfl ?_
  refine keep [0, 2, 6, 10] rfl ?_
  refine q1 rfl (fun hc1 => ?_) (fun hc1 => ?_)
  · skip
    try simp only [cs, ne_eq] at hc1
    refine W_skip ?_
    refine tn ?_
    refine W_seq ?_
    refine W_block ?_
    refine W_seq ?_
    refine r1 ?_
    refine s1 13 19 1 rfl rfl rfl rfl rfl rfl trivial ?_
    refine s1 14 27 2 rfl rfl rfl rfl rfl rfl trivial ?_
    refine s1 15 35 3 rfl rfl rfl rfl rfl rfl trivial ?_
    refine s1 16 43 4 rfl rfl rfl rfl rfl rfl (by first | trivial | omega) ?_
    refine sD 17 51 5 rfl rfl rfl rfl rfl rfl rfl rfl rfl (by omega) ?_
    refine s1 18 59 6 rfl rfl rfl rfl rfl rfl (by first | trivial | omega) ?_
    refine e1 67 rfl ?_
    refine keep [0, 2, 6, 18] rfl ?_
    refine q1 rfl (fun hc3 => ?_) (fun hc3 => ?_)
    · skip
      try simp only [cs, ne_eq] at hc3
      refine r0 ?_
      refine s1 19 67 1 rfl rfl rfl rfl rfl rfl trivial ?_
      refine s1 20 75 2 rfl rfl rfl rfl rfl rfl trivial ?_
      refine s1 21 83 3 rfl rfl rfl rfl rfl rfl trivial ?_
      refine s1 22 91 4 rfl rfl rfl rfl rfl rfl trivial ?_
      refine s1 23 99 5 rfl rfl rfl rfl rfl rfl (by first | trivial | omega) ?_
      refine s1 24 107 6 rfl rfl rfl rfl rfl rfl trivial ?_
      refine s1 25 115 7 rfl rfl rfl rfl rfl rfl ⟨Nat.le_refl _, trivial, (by show ((pack M).length + 1) * 1 ≤ 140737488355328; omega), (by simp only [maxLen]; omega)⟩ ?_
      refine s1 26 123 8 rfl rfl rfl rfl rfl rfl trivial ?_
      refine s1 27 131 9 rfl rfl rfl rfl rfl rfl trivial ?_
      refine s0 139 10 rfl rfl rfl rfl rfl (by first | trivial | omega) ?_
      refine e1 147 rfl ?_
      refine tn ?_
      refine rowsc 115 (packRoom M).length (u8F (packRoom M)) rfl (by rw [hrl, pack_length]; omega) (fun i c hi hc => room_cat (by omega) i c hi hc) ?_
      refine chval 0 (.cells 65 2 [.sl 115 0 (packRoom M).length, SV.i M.length]) rfl (by rw [show (packRoom M).length = (pack M).length + 1 from (by rw [hrl, pack_length]; omega)]; try rfl) ?_
      refine rd1 rfl ?_
      refine d1 28 147 1 rfl rfl rfl rfl rfl rfl trivial ?_
      refine d1 29 155 2 rfl rfl rfl rfl rfl rfl trivial ?_
      refine d1 30 163 3 rfl rfl rfl rfl rfl rfl trivial ?_
      refine d1 31 171 4 rfl rfl rfl rfl rfl rfl (by first | trivial | omega) ?_
      refine d1 32 179 5 rfl rfl rfl rfl rfl rfl trivial ?_
      refine d1 33 187 6 rfl rfl rfl rfl rfl rfl trivial ?_
      refine d1 34 195 7 rfl rfl rfl rfl rfl rfl trivial ?_
      refine d1 35 203 8 rfl rfl rfl rfl rfl rfl (by first | trivial | omega) ?_
      refine dD 36 211 9 rfl rfl rfl rfl rfl rfl rfl rfl rfl (by omega) ?_
      refine d1 37 219 10 rfl rfl rfl rfl rfl rfl (by omega) ?_
      refine val 37 (.ptr 115 (M.length / 8) 0) rfl (by rw [show ((M.length : Int) / 8).toNat = M.length / 8 by omega, Nat.zero_add]) ?_
      refine d1 38 227 11 rfl rfl rfl rfl rfl rfl (by omega) ?_
      refine val 38 (.d (.val (.int .u8 (packByte M (M.length / 8))))) rfl (by rw [room_get M _ (by omega)]) ?_
      refine d1 39 235 12 rfl rfl rfl rfl rfl rfl trivial ?_
      refine d1 40 243 13 rfl rfl rfl rfl rfl rfl trivial ?_
      refine d1 41 251 14 rfl rfl rfl rfl rfl rfl (by show 0 ≤ k; omega) ?_
      refine val 41 (SV.i (v / 2 ^ (w - 1 - j))) rfl (congrArg (fun x => SV.d (D.val (Value.int .i64 x))) (shr_val (by omega) (by omega))) ?_
      refine d1 42 259 15 rfl rfl rfl rfl rfl rfl (by first | trivial | omega) ?_
      refine d1 43 267 16 rfl rfl rfl rfl rfl rfl trivial ?_
      refine val 43 (.d (.val (.int .u8 (v / 2 ^ (w - 1 - j) % 2)))) rfl (congrArg (fun x => SV.d (D.val (Value.int .u8 x))) (and_bit hv _)) ?_
      refine d1 44 275 17 rfl rfl rfl rfl rfl rfl trivial ?_
      refine d1 45 283 18 rfl rfl rfl rfl rfl rfl trivial ?_
      refine d1 46 291 19 rfl rfl rfl rfl rfl rfl trivial ?_
      refine d1 47 299 20 rfl rfl rfl rfl rfl rfl (by first | trivial | omega) ?_
      refine dD 48 307 21 rfl rfl rfl rfl rfl rfl rfl rfl rfl (by omega) ?_
      refine dA 49 315 22 rfl rfl rfl rfl rfl rfl rfl rfl rfl (by unfold inRange; omega) ?_
      refine d1 50 323 23 rfl rfl rfl rfl rfl rfl (by omega) ?_
      refine val 50 (.d (.val (.int .u8 ((v / 2 ^ (w - 1 - j) % 2) * 2 ^ (7 - M.length % 8))))) rfl (congrArg (fun x => SV.d (D.val (Value.int .u8 x))) (shl_bit (bit_01 _ _) (by omega) (by omega))) ?_
      refine d1 51 331 24 rfl rfl rfl rfl rfl rfl (by first | trivial | omega) ?_
      refine val 51 (.d (.val (.int .u8 (packByte M (M.length / 8) + (v / 2 ^ (w - 1 - j) % 2) * 2 ^ (7 - M.length % 8))))) rfl (congrArg (fun x => SV.d (D.val (Value.int .u8 x))) (pack_or M hA _ (bit_01 _ _)).1) ?_
      refine d1 52 339 25 rfl rfl rfl rfl rfl rfl (by omega) ?_
      refine val 52 (.ptr 115 (M.length / 8) 0) rfl (by rw [show ((M.length : Int) / 8).toNat = M.length / 8 by omega, Nat.zero_add]) ?_
      refine d0 347 26 rfl rfl rfl rfl rfl (by omega) ?_
      refine de1 355 rfl (by kernel_rfl) ?_
      refine keep [0, 2, 6] rfl ?_
      refine r0 ?_
      refine s1 53 355 1 rfl rfl rfl rfl rfl rfl trivial ?_
      refine s1 54 363 2 rfl rfl rfl rfl rfl rfl trivial ?_
      refine s1 55 371 3 rfl rfl rfl rfl rfl rfl trivial ?_
      refine s1 56 379 4 rfl rfl rfl rfl rfl rfl (by first | trivial | omega) ?_
      refine sA 57 387 5 rfl rfl rfl rfl rfl rfl rfl rfl rfl (by unfold inRange; omega) ?_
      refine s1 58 395 6 rfl rfl rfl rfl rfl rfl trivial ?_
      refine s1 59 403 7 rfl rfl rfl rfl rfl rfl trivial ?_
      refine s0 411 8 rfl rfl rfl rfl rfl (by first | trivial | omega) ?_
      refine e1 419 rfl ?_
      refine bn ?_
      refine tn ?_
      refine rowsc 115 (pack (M ++ [(v / 2 ^ (w - 1 - j) % 2)])).length (u8F (pack (M ++ [(v / 2 ^ (w - 1 - j) % 2)]))) rfl (room_len _) (fun i c hi hc => room_set hA _ _ rfl i c hi hc) ?_
      refine chval 0 (.cells 65 2 [.sl 115 0 (pack (M ++ [(v / 2 ^ (w - 1 - j) % 2)])).length, SV.i (M ++ [(v / 2 ^ (w - 1 - j) % 2)]).length]) rfl (by rw [← room_len, List.length_append]; rfl) ?_
      refine r0 ?_
      refine s1 11 419 1 rfl rfl rfl rfl rfl rfl trivial ?_
      refine sA 12 427 2 rfl rfl rfl rfl rfl rfl rfl rfl rfl (by unfold inRange; omega) ?_
      refine s1 6 435 3 rfl rfl rfl rfl rfl rfl trivial ?_
      refine e1 443 rfl ?_
      refine tn ?_
      exact again (((j + 1, M ++ [(v / 2 ^ (w - 1 - j) % 2)], k - 1) : Nat × List Int × Int)) [0, 1, 115] (show (j + 1) ≤ w ∧ (M ++ [(v / 2 ^ (w - 1 - j) % 2)]) = L ++ (bitsOf w v).take (j + 1) ∧ (k - 1) = w - 1 - (j + 1) from ⟨by omega, by rw [hM, bitsOf_take w j v (by omega), List.append_assoc], by omega⟩) (show w - (j + 1) < w - j from (by omega)) rfl ⟨rfl, rfl, rfl, trivial⟩ ⟨rfl, rfl, trivial⟩
    · skip
      try simp only [cs, ne_eq] at hc3
      refine W_skip ?_
      refine tn ?_
      refine rowsc 2 (packRoom M).length (u8F (packRoom M)) rfl (by rw [room_same (by omega)]) (fun i c hi hc => by rw [room_same (by omega)]) ?_
      refine chval 0 (.cells 65 2 [.sl 2 0 (packRoom M).length, SV.i M.length]) rfl (by rw [room_same (by omega)]; try rfl) ?_
      refine rd1 rfl ?_
      refine d1 28 67 1 rfl rfl rfl rfl rfl rfl trivial ?_
      refine d1 29 75 2 rfl rfl rfl rfl rfl rfl trivial ?_
      refine d1 30 83 3 rfl rfl rfl rfl rfl rfl trivial ?_
      refine d1 31 91 4 rfl rfl rfl rfl rfl rfl (by first | trivial | omega) ?_
      refine d1 32 99 5 rfl rfl rfl rfl rfl rfl trivial ?_
      refine d1 33 107 6 rfl rfl rfl rfl rfl rfl trivial ?_
      refine d1 34 115 7 rfl rfl rfl rfl rfl rfl trivial ?_
      refine d1 35 123 8 rfl rfl rfl rfl rfl rfl (by first | trivial | omega) ?_
      refine dD 36 131 9 rfl rfl rfl rfl rfl rfl rfl rfl rfl (by omega) ?_
      refine d1 37 139 10 rfl rfl rfl rfl rfl rfl (by omega) ?_
      refine val 37 (.ptr 2 (M.length / 8) 0) rfl (by rw [show ((M.length : Int) / 8).toNat = M.length / 8 by omega, Nat.zero_add]) ?_
      refine d1 38 147 11 rfl rfl rfl rfl rfl rfl (by omega) ?_
      refine val 38 (.d (.val (.int .u8 (packByte M (M.length / 8))))) rfl (by rw [room_get M _ (by omega)]) ?_
      refine d1 39 155 12 rfl rfl rfl rfl rfl rfl trivial ?_
      refine d1 40 163 13 rfl rfl rfl rfl rfl rfl trivial ?_
      refine d1 41 171 14 rfl rfl rfl rfl rfl rfl (by show 0 ≤ k; omega) ?_
      refine val 41 (SV.i (v / 2 ^ (w - 1 - j))) rfl (congrArg (fun x => SV.d (D.val (Value.int .i64 x))) (shr_val (by omega) (by omega))) ?_
      refine d1 42 179 15 rfl rfl rfl rfl rfl rfl (by first | trivial | omega) ?_
      refine d1 43 187 16 rfl rfl rfl rfl rfl rfl trivial ?_
      refine val 43 (.d (.val (.int .u8 (v / 2 ^ (w - 1 - j) % 2)))) rfl (congrArg (fun x => SV.d (D.val (Value.int .u8 x))) (and_bit hv _)) ?_
      refine d1 44 195 17 rfl rfl rfl rfl rfl rfl trivial ?_
      refine d1 45 203 18 rfl rfl rfl rfl rfl rfl trivial ?_
      refine d1 46 211 19 rfl rfl rfl rfl rfl rfl trivial ?_
      refine d1 47 219 20 rfl rfl rfl rfl rfl rfl (by first | trivial | omega) ?_
      refine dD 48 227 21 rfl rfl rfl rfl rfl rfl rfl rfl rfl (by omega) ?_
      refine dA 49 235 22 rfl rfl rfl rfl rfl rfl rfl rfl rfl (by unfold inRange; omega) ?_
      refine d1 50 243 23 rfl rfl rfl rfl rfl rfl (by omega) ?_
      refine val 50 (.d (.val (.int .u8 ((v / 2 ^ (w - 1 - j) % 2) * 2 ^ (7 - M.length % 8))))) rfl (congrArg (fun x => SV.d (D.val (Value.int .u8 x))) (shl_bit (bit_01 _ _) (by omega) (by omega))) ?_
      refine d1 51 251 24 rfl rfl rfl rfl rfl rfl (by first | trivial | omega) ?_
      refine val 51 (.d (.val (.int .u8 (packByte M (M.length / 8) + (v / 2 ^ (w - 1 - j) % 2) * 2 ^ (7 - M.length % 8))))) rfl (congrArg (fun x => SV.d (D.val (Value.int .u8 x))) (pack_or M hA _ (bit_01 _ _)).1) ?_
      refine d1 52 259 25 rfl rfl rfl rfl rfl rfl (by omega) ?_
      refine val 52 (.ptr 2 (M.length / 8) 0) rfl (by rw [show ((M.length : Int) / 8).toNat = M.length / 8 by omega, Nat.zero_add]) ?_
      refine d0 267 26 rfl rfl rfl rfl rfl (by omega) ?_
      refine de1 275 rfl (by kernel_rfl) ?_
      refine keep [0, 2, 6] rfl ?_
      refine r0 ?_
      refine s1 53 275 1 rfl rfl rfl rfl rfl rfl trivial ?_
      refine s1 54 283 2 rfl rfl rfl rfl rfl rfl trivial ?_
      refine s1 55 291 3 rfl rfl rfl rfl rfl rfl trivial ?_
      refine s1 56 299 4 rfl rfl rfl rfl rfl rfl (by first | trivial | omega) ?_
      refine sA 57 307 5 rfl rfl rfl rfl rfl rfl rfl rfl rfl (by unfold inRange; omega) ?_
      refine s1 58 315 6 rfl rfl rfl rfl rfl rfl trivial ?_
      refine s1 59 323 7 rfl rfl rfl rfl rfl rfl trivial ?_
      refine s0 331 8 rfl rfl rfl rfl rfl (by first | trivial | omega) ?_
      refine e1 339 rfl ?_
      refine bn ?_
      refine tn ?_
      refine rowsc 2 (pack (M ++ [(v / 2 ^ (w - 1 - j) % 2)])).length (u8F (pack (M ++ [(v / 2 ^ (w - 1 - j) % 2)]))) rfl (room_len _) (fun i c hi hc => room_set hA _ _ rfl i c hi hc) ?_
      refine chval 0 (.cells 65 2 [.sl 2 0 (pack (M ++ [(v / 2 ^ (w - 1 - j) % 2)])).length, SV.i (M ++ [(v / 2 ^ (w - 1 - j) % 2)]).length]) rfl (by rw [← room_len, List.length_append]; rfl) ?_
      refine r0 ?_
      refine s1 11 339 1 rfl rfl rfl rfl rfl rfl trivial ?_
      refine sA 12 347 2 rfl rfl rfl rfl rfl rfl rfl rfl rfl (by unfold inRange; omega) ?_
      refine s1 6 355 3 rfl rfl rfl rfl rfl rfl trivial ?_
      refine e1 363 rfl ?_
      refine tn ?_
      exact again (((j + 1, M ++ [(v / 2 ^ (w - 1 - j) % 2)], k - 1) : Nat × List Int × Int)) [0, 1, 2] (show (j + 1) ≤ w ∧ (M ++ [(v / 2 ^ (w - 1 - j) % 2)]) = L ++ (bitsOf w v).take (j + 1) ∧ (k - 1) = w - 1 - (j + 1) from ⟨by omega, by rw [hM, bitsOf_take w j v (by omega), List.append_assoc], by omega⟩) (show w - (j + 1) < w - j from (by omega)) rfl ⟨rfl, rfl, rfl, trivial⟩ ⟨rfl, rfl, trivial⟩
  · skip
    try simp only [cs, ne_eq] at hc1
    refine W_exit ?_
    refine tx ?_
    refine tx ?_
    refine bx ?_
    obtain rfl : M = L ++ bitsOf w v := (by rw [hM, List.take_of_length_le (by rw [bitsOf_length]; omega)])
    exact out0 (π := [0, 1, 2]) (hout := [some (.cells 65 2 [.sl 2 0 (pack (L ++ bitsOf w v)).length, SV.i (L ++ bitsOf w v).length]), none, some (.rows 5 1 (pack (L ++ bitsOf w v)).length (u8F (pack (L ++ bitsOf w v))))]) Tryd.results30 rfl rfl ⟨rfl, rfl, trivial⟩ ⟨rfl, rfl⟩

theorem small_any (n : Int) : Spec Tryd.prog GC 88 [SV.i n] [] (fun r ho => r = SV.b (decide (-288230376151711744 ≤ n) && decide (n < 288230376151711744)) ∧ ho = []) := by
  refine start 9 0 Tryd.func88 rfl rfl rfl rfl ?_
  refine r1 ?_
  refine s1 2 0 1 rfl rfl rfl rfl rfl rfl trivial ?_
  refine e1 8 rfl ?_
  refine keep [0] rfl ?_
  refine r1 ?_
  refine s1 3 8 1 rfl rfl rfl rfl rfl rfl trivial ?_
  refine s1 4 16 2 rfl rfl rfl rfl rfl rfl (by first | trivial | omega) ?_
  refine s1 5 24 3 rfl rfl rfl rfl rfl rfl trivial ?_
  refine ask 5 rfl (fun hg1_5 => ?_) (fun hg1_5 => ?_)
  · skip
    try simp only [cs, ne_eq] at hg1_5
    refine g1 2 true 5 6 4 rfl rfl rfl rfl rfl ?_
    refine s1 6 32 4 rfl rfl rfl rfl rfl rfl trivial ?_
    refine g1 2 true 5 7 5 rfl rfl rfl rfl rfl ?_
    refine s1 7 40 5 rfl rfl rfl rfl rfl rfl (by first | trivial | omega) ?_
    refine s1 8 48 6 rfl rfl rfl rfl rfl rfl trivial ?_
    refine s1 2 56 7 rfl rfl rfl rfl rfl rfl trivial ?_
    refine e1 64 rfl ?_
    refine keep [2] rfl ?_
    refine W_ret ?_
    exact out1 2 (SV.b (decide (-288230376151711744 ≤ n) && decide (n < 288230376151711744))) (π := []) (hout := []) Tryd.results88 rfl (by show SV.b _ = SV.b _; refine congrArg SV.b (Bool.eq_iff_iff.2 ?_); simp at *; try omega) rfl rfl trivial ⟨rfl, rfl⟩
  · skip
    try simp only [cs, ne_eq] at hg1_5
    refine g0 2 true 5 6 4 rfl rfl rfl rfl rfl rfl ?_
    refine g0 2 true 5 7 5 rfl rfl rfl rfl rfl rfl ?_
    refine s1 8 48 6 rfl rfl rfl rfl rfl rfl trivial ?_
    refine s1 2 56 7 rfl rfl rfl rfl rfl rfl trivial ?_
    refine e1 64 rfl ?_
    refine keep [2] rfl ?_
    refine W_ret ?_
    exact out1 2 (SV.b (decide (-288230376151711744 ≤ n) && decide (n < 288230376151711744))) (π := []) (hout := []) Tryd.results88 rfl (by show SV.b _ = SV.b _; refine congrArg SV.b (Bool.eq_iff_iff.2 ?_); simp at *; try omega) rfl rfl trivial ⟨rfl, rfl⟩

theorem fold_any (n : Int) (h : isSm n) : Spec Tryd.prog GC 74 [SV.i n] [] (fun r ho => r = SV.tup [SV.i (zFold n), SV.i 0] ∧ ho = []) := by
  refine start 12 0 Tryd.func74 rfl rfl rfl rfl ?_
  refine r1 ?_
  refine s1 2 0 1 rfl rfl rfl rfl rfl rfl trivial ?_
  refine s1 3 8 2 rfl rfl rfl rfl rfl rfl trivial ?_
  refine e1 16 rfl ?_
  refine keep [0] rfl ?_
  refine W_seq ?_
  refine r1 ?_
  refine s1 4 16 1 rfl rfl rfl rfl rfl rfl trivial ?_
  refine c1 (small_any n) [] [] 5 24 2 rfl rfl rfl rfl rfl rfl rfl rfl Tryd.func88 rfl rfl rfl rfl trivial rfl rfl ?_
  refine s1 6 32 3 rfl rfl rfl rfl rfl rfl trivial ?_
  refine e1 40 rfl ?_
  refine keep [0, 6] rfl ?_
  refine q1 rfl (fun hc1 => ?_) (fun hc1 => ?_)
  · skip
    exfalso; have := h.1; have := h.2; simp at hc1; omega
  · skip
    try simp only [cs, ne_eq] at hc1
    refine W_skip ?_
    refine tn ?_
    refine r1 ?_
    refine s1 7 40 1 rfl rfl rfl rfl rfl rfl trivial ?_
    refine s1 8 48 2 rfl rfl rfl rfl rfl rfl (by decide) ?_
    refine val 8 (SV.i (n * 2)) rfl (congrArg (fun x => SV.d (D.val (Value.int .i64 x))) (shl1 h)) ?_
    refine s1 9 56 3 rfl rfl rfl rfl rfl rfl trivial ?_
    refine s1 10 64 4 rfl rfl rfl rfl rfl rfl (by decide) ?_
    refine val 10 (SV.i (n / 9223372036854775808)) rfl (congrArg (fun x => SV.d (D.val (Value.int .i64 x))) (shr63 n)) ?_
    refine s1 11 72 5 rfl rfl rfl rfl rfl rfl (by first | trivial | omega) ?_
    refine val 11 (SV.i (zFold n)) rfl (congrArg (fun x => SV.d (D.val (Value.int .i64 x))) (fold_xor h rfl rfl)) ?_
    refine s1 2 80 6 rfl rfl rfl rfl rfl rfl trivial ?_
    refine s1 3 88 7 rfl rfl rfl rfl rfl rfl trivial ?_
    refine e1 96 rfl ?_
    refine keep [2, 3] rfl ?_
    refine W_ret ?_
    exact out2 2 3 (SV.i (zFold n)) (SV.i 0) (π := []) (hout := []) Tryd.results74 rfl rfl rfl rfl rfl rfl trivial ⟨rfl, rfl⟩

theorem fit_any (x : Int) (h0 : 0 ≤ x) : Spec Tryd.prog GC 75 [SV.i x] [] (fun r ho => r = clsS (cls x) ∧ ho = []) := by
  refine start 18 0 Tryd.func75 rfl rfl rfl rfl ?_
  refine r1 ?_
  refine s1 2 0 1 rfl rfl rfl rfl rfl rfl trivial ?_
  refine e1 8 rfl ?_
  refine keep [0, 2] rfl ?_
  refine W_seq ?_
  refine r1 ?_
  refine s1 5 8 1 rfl rfl rfl rfl rfl rfl (by first | trivial | omega) ?_
  refine s1 6 16 2 rfl rfl rfl rfl rfl rfl trivial ?_
  refine e1 24 rfl ?_
  refine keep [0, 2, 5, 6] rfl ?_
  refine W_block ?_
  refine W_unroll 6 ?_
  refine unr ?_
  refine r1 ?_
  refine s1 7 24 1 rfl rfl rfl rfl rfl rfl (by first | trivial | omega) ?_
  refine e1 32 rfl ?_
  refine keep [0, 2, 5, 6, 7] rfl ?_
  refine W_seq ?_
  refine q1 rfl (fun hc2 => ?_) (fun hc2 => ?_)
  · skip
    try simp only [cs, ne_eq] at hc2
    refine W_skip ?_
    refine tn ?_
    refine W_seq ?_
    refine W_block ?_
    refine r1 ?_
    refine sIdxA 8 32 1 rfl rfl rfl rfl rfl rfl rfl (by decide) ?_
    refine s1 4 40 2 rfl rfl rfl rfl rfl rfl trivial ?_
    refine s0 48 3 rfl rfl rfl rfl rfl (by first | trivial | omega) ?_
    refine e1 56 rfl ?_
    refine keep [0, 2, 4, 5, 6] rfl ?_
    refine r1 ?_
    refine s1 9 56 1 rfl rfl rfl rfl rfl rfl trivial ?_
    refine s1 10 64 2 rfl rfl rfl rfl rfl rfl trivial ?_
    refine s1 11 72 3 rfl rfl rfl rfl rfl rfl (by first | trivial | omega) ?_
    refine val 11 (SV.i 0) rfl rfl ?_
    refine s1 12 80 4 rfl rfl rfl rfl rfl rfl (by decide) ?_
    refine val 12 (SV.i (x / 2 ^ 0)) rfl (congrArg (fun x => SV.d (D.val (Value.int .i64 x))) (shr_val (k := 0) (q := 0) rfl (by decide))) ?_
    refine s1 13 88 5 rfl rfl rfl rfl rfl rfl (by first | trivial | omega) ?_
    refine e1 96 rfl ?_
    refine keep [0, 2, 4, 5, 6, 13] rfl ?_
    refine q1 rfl (fun hc4 => ?_) (fun hc4 => ?_)
    · skip
      try simp only [cs, ne_eq] at hc4
      refine r1 ?_
      refine s1 14 96 1 rfl rfl rfl rfl rfl rfl (by first | trivial | omega) ?_
      refine s0 104 2 rfl rfl rfl rfl rfl (by first | trivial | omega) ?_
      refine e1 112 rfl ?_
      refine keep [2] rfl ?_
      refine W_ret ?_
      refine br ?_
      refine tr ?_
      refine tr ?_
      refine br ?_
      refine tr ?_
      have hcl : cls x = 0 := (by unfold cls; rw [if_pos (by omega)])
      exact outN (clsS (cls x)) (π := []) (hout := []) Tryd.results75 rfl (by trivial) (by rw [hcl]; rfl) rfl rfl trivial ⟨rfl, rfl⟩
    · skip
      try simp only [cs, ne_eq] at hc4
      refine W_skip ?_
      refine bn ?_
      refine tn ?_
      refine r0 ?_
      refine sA 15 96 1 rfl rfl rfl rfl rfl rfl rfl rfl rfl (by unfold inRange; omega) ?_
      refine val 15 (SV.i 1) rfl rfl ?_
      refine s1 6 104 2 rfl rfl rfl rfl rfl rfl trivial ?_
      refine e1 112 rfl ?_
      refine tn ?_
      refine unr ?_
      refine r1 ?_
      refine s1 7 112 1 rfl rfl rfl rfl rfl rfl (by first | trivial | omega) ?_
      refine e1 120 rfl ?_
      refine keep [0, 2, 5, 6, 7] rfl ?_
      refine W_seq ?_
      refine q1 rfl (fun hc2 => ?_) (fun hc2 => ?_)
      · skip
        try simp only [cs, ne_eq] at hc2
        refine W_skip ?_
        refine tn ?_
        refine W_seq ?_
        refine W_block ?_
        refine r1 ?_
        refine sIdxA 8 120 1 rfl rfl rfl rfl rfl rfl rfl (by decide) ?_
        refine s1 4 128 2 rfl rfl rfl rfl rfl rfl trivial ?_
        refine s0 136 3 rfl rfl rfl rfl rfl (by first | trivial | omega) ?_
        refine e1 144 rfl ?_
        refine keep [0, 2, 4, 5, 6] rfl ?_
        refine r1 ?_
        refine s1 9 144 1 rfl rfl rfl rfl rfl rfl trivial ?_
        refine s1 10 152 2 rfl rfl rfl rfl rfl rfl trivial ?_
        refine s1 11 160 3 rfl rfl rfl rfl rfl rfl (by first | trivial | omega) ?_
        refine val 11 (SV.i 6) rfl rfl ?_
        refine s1 12 168 4 rfl rfl rfl rfl rfl rfl (by decide) ?_
        refine val 12 (SV.i (x / 2 ^ 6)) rfl (congrArg (fun x => SV.d (D.val (Value.int .i64 x))) (shr_val (k := 6) (q := 6) rfl (by decide))) ?_
        refine s1 13 176 5 rfl rfl rfl rfl rfl rfl (by first | trivial | omega) ?_
        refine e1 184 rfl ?_
        refine keep [0, 2, 4, 5, 6, 13] rfl ?_
        refine q1 rfl (fun hc4 => ?_) (fun hc4 => ?_)
        · skip
          try simp only [cs, ne_eq] at hc4
          refine r1 ?_
          refine s1 14 184 1 rfl rfl rfl rfl rfl rfl (by first | trivial | omega) ?_
          refine s0 192 2 rfl rfl rfl rfl rfl (by first | trivial | omega) ?_
          refine e1 200 rfl ?_
          refine keep [2] rfl ?_
          refine W_ret ?_
          refine br ?_
          refine tr ?_
          refine tr ?_
          refine br ?_
          refine tr ?_
          have hcl : cls x = 1 := (by unfold cls; rw [if_neg (by omega)]; rw [if_pos (by omega)])
          exact outN (clsS (cls x)) (π := []) (hout := []) Tryd.results75 rfl (by trivial) (by rw [hcl]; rfl) rfl rfl trivial ⟨rfl, rfl⟩
        · skip
          try simp only [cs, ne_eq] at hc4
          refine W_skip ?_
          refine bn ?_
          refine tn ?_
          refine r0 ?_
          refine sA 15 184 1 rfl rfl rfl rfl rfl rfl rfl rfl rfl (by unfold inRange; omega) ?_
          refine val 15 (SV.i 2) rfl rfl ?_
          refine s1 6 192 2 rfl rfl rfl rfl rfl rfl trivial ?_
          refine e1 200 rfl ?_
          refine tn ?_
          refine unr ?_
          refine r1 ?_
          refine s1 7 200 1 rfl rfl rfl rfl rfl rfl (by first | trivial | omega) ?_
          refine e1 208 rfl ?_
          refine keep [0, 2, 5, 6, 7] rfl ?_
          refine W_seq ?_
          refine q1 rfl (fun hc2 => ?_) (fun hc2 => ?_)
          · skip
            try simp only [cs, ne_eq] at hc2
            refine W_skip ?_
            refine tn ?_
            refine W_seq ?_
            refine W_block ?_
            refine r1 ?_
            refine sIdxA 8 208 1 rfl rfl rfl rfl rfl rfl rfl (by decide) ?_
            refine s1 4 216 2 rfl rfl rfl rfl rfl rfl trivial ?_
            refine s0 224 3 rfl rfl rfl rfl rfl (by first | trivial | omega) ?_
            refine e1 232 rfl ?_
            refine keep [0, 2, 4, 5, 6] rfl ?_
            refine r1 ?_
            refine s1 9 232 1 rfl rfl rfl rfl rfl rfl trivial ?_
            refine s1 10 240 2 rfl rfl rfl rfl rfl rfl trivial ?_
            refine s1 11 248 3 rfl rfl rfl rfl rfl rfl (by first | trivial | omega) ?_
            refine val 11 (SV.i 12) rfl rfl ?_
            refine s1 12 256 4 rfl rfl rfl rfl rfl rfl (by decide) ?_
            refine val 12 (SV.i (x / 2 ^ 12)) rfl (congrArg (fun x => SV.d (D.val (Value.int .i64 x))) (shr_val (k := 12) (q := 12) rfl (by decide))) ?_
            refine s1 13 264 5 rfl rfl rfl rfl rfl rfl (by first | trivial | omega) ?_
            refine e1 272 rfl ?_
            refine keep [0, 2, 4, 5, 6, 13] rfl ?_
            refine q1 rfl (fun hc4 => ?_) (fun hc4 => ?_)
            · skip
              try simp only [cs, ne_eq] at hc4
              refine r1 ?_
              refine s1 14 272 1 rfl rfl rfl rfl rfl rfl (by first | trivial | omega) ?_
              refine s0 280 2 rfl rfl rfl rfl rfl (by first | trivial | omega) ?_
              refine e1 288 rfl ?_
              refine keep [2] rfl ?_
              refine W_ret ?_
              refine br ?_
              refine tr ?_
              refine tr ?_
              refine br ?_
              refine tr ?_
              have hcl : cls x = 2 := (by unfold cls; rw [if_neg (by omega)]; rw [if_neg (by omega)]; rw [if_pos (by omega)])
              exact outN (clsS (cls x)) (π := []) (hout := []) Tryd.results75 rfl (by trivial) (by rw [hcl]; rfl) rfl rfl trivial ⟨rfl, rfl⟩
            · skip
              try simp only [cs, ne_eq] at hc4
              refine W_skip ?_
              refine bn ?_
              refine tn ?_
              refine r0 ?_
              refine sA 15 272 1 rfl rfl rfl rfl rfl rfl rfl rfl rfl (by unfold inRange; omega) ?_
              refine val 15 (SV.i 3) rfl rfl ?_
              refine s1 6 280 2 rfl rfl rfl rfl rfl rfl trivial ?_
              refine e1 288 rfl ?_
              refine tn ?_
              refine unr ?_
              refine r1 ?_
              refine s1 7 288 1 rfl rfl rfl rfl rfl rfl (by first | trivial | omega) ?_
              refine e1 296 rfl ?_
              refine keep [0, 2, 5, 6, 7] rfl ?_
              refine W_seq ?_
              refine q1 rfl (fun hc2 => ?_) (fun hc2 => ?_)
              · skip
                try simp only [cs, ne_eq] at hc2
                refine W_skip ?_
                refine tn ?_
                refine W_seq ?_
                refine W_block ?_
                refine r1 ?_
                refine sIdxA 8 296 1 rfl rfl rfl rfl rfl rfl rfl (by decide) ?_
                refine s1 4 304 2 rfl rfl rfl rfl rfl rfl trivial ?_
                refine s0 312 3 rfl rfl rfl rfl rfl (by first | trivial | omega) ?_
                refine e1 320 rfl ?_
                refine keep [0, 2, 4, 5, 6] rfl ?_
                refine r1 ?_
                refine s1 9 320 1 rfl rfl rfl rfl rfl rfl trivial ?_
                refine s1 10 328 2 rfl rfl rfl rfl rfl rfl trivial ?_
                refine s1 11 336 3 rfl rfl rfl rfl rfl rfl (by first | trivial | omega) ?_
                refine val 11 (SV.i 24) rfl rfl ?_
                refine s1 12 344 4 rfl rfl rfl rfl rfl rfl (by decide) ?_
                refine val 12 (SV.i (x / 2 ^ 24)) rfl (congrArg (fun x => SV.d (D.val (Value.int .i64 x))) (shr_val (k := 24) (q := 24) rfl (by decide))) ?_
                refine s1 13 352 5 rfl rfl rfl rfl rfl rfl (by first | trivial | omega) ?_
                refine e1 360 rfl ?_
                refine keep [0, 2, 4, 5, 6, 13] rfl ?_
                refine q1 rfl (fun hc4 => ?_) (fun hc4 => ?_)
                · skip
                  try simp only [cs, ne_eq] at hc4
                  refine r1 ?_
                  refine s1 14 360 1 rfl rfl rfl rfl rfl rfl (by first | trivial | omega) ?_
                  refine s0 368 2 rfl rfl rfl rfl rfl (by first | trivial | omega) ?_
                  refine e1 376 rfl ?_
                  refine keep [2] rfl ?_
                  refine W_ret ?_
                  refine br ?_
                  refine tr ?_
                  refine tr ?_
                  refine br ?_
                  refine tr ?_
                  have hcl : cls x = 3 := (by unfold cls; rw [if_neg (by omega)]; rw [if_neg (by omega)]; rw [if_neg (by omega)]; rw [if_pos (by omega)])
                  exact outN (clsS (cls x)) (π := []) (hout := []) Tryd.results75 rfl (by trivial) (by rw [hcl]; rfl) rfl rfl trivial ⟨rfl, rfl⟩
                · skip
                  try simp only [cs, ne_eq] at hc4
                  refine W_skip ?_
                  refine bn ?_
                  refine tn ?_
                  refine r0 ?_
                  refine sA 15 360 1 rfl rfl rfl rfl rfl rfl rfl rfl rfl (by unfold inRange; omega) ?_
                  refine val 15 (SV.i 4) rfl rfl ?_
                  refine s1 6 368 2 rfl rfl rfl rfl rfl rfl trivial ?_
                  refine e1 376 rfl ?_
                  refine tn ?_
                  refine unr ?_
                  refine r1 ?_
                  refine s1 7 376 1 rfl rfl rfl rfl rfl rfl (by first | trivial | omega) ?_
                  refine e1 384 rfl ?_
                  refine keep [0, 2, 5, 6, 7] rfl ?_
                  refine W_seq ?_
                  refine q1 rfl (fun hc2 => ?_) (fun hc2 => ?_)
                  · skip
                    try simp only [cs, ne_eq] at hc2
                    refine W_skip ?_
                    refine tn ?_
                    refine W_seq ?_
                    refine W_block ?_
                    refine r1 ?_
                    refine sIdxA 8 384 1 rfl rfl rfl rfl rfl rfl rfl (by decide) ?_
                    refine s1 4 392 2 rfl rfl rfl rfl rfl rfl trivial ?_
                    refine s0 400 3 rfl rfl rfl rfl rfl (by first | trivial | omega) ?_
                    refine e1 408 rfl ?_
                    refine keep [0, 2, 4, 5, 6] rfl ?_
                    refine r1 ?_
                    refine s1 9 408 1 rfl rfl rfl rfl rfl rfl trivial ?_
                    refine s1 10 416 2 rfl rfl rfl rfl rfl rfl trivial ?_
                    refine s1 11 424 3 rfl rfl rfl rfl rfl rfl (by first | trivial | omega) ?_
                    refine val 11 (SV.i 59) rfl rfl ?_
                    refine s1 12 432 4 rfl rfl rfl rfl rfl rfl (by decide) ?_
                    refine val 12 (SV.i (x / 2 ^ 59)) rfl (congrArg (fun x => SV.d (D.val (Value.int .i64 x))) (shr_val (k := 59) (q := 59) rfl (by decide))) ?_
                    refine s1 13 440 5 rfl rfl rfl rfl rfl rfl (by first | trivial | omega) ?_
                    refine e1 448 rfl ?_
                    refine keep [0, 2, 4, 5, 6, 13] rfl ?_
                    refine q1 rfl (fun hc4 => ?_) (fun hc4 => ?_)
                    · skip
                      try simp only [cs, ne_eq] at hc4
                      refine r1 ?_
                      refine s1 14 448 1 rfl rfl rfl rfl rfl rfl (by first | trivial | omega) ?_
                      refine s0 456 2 rfl rfl rfl rfl rfl (by first | trivial | omega) ?_
                      refine e1 464 rfl ?_
                      refine keep [2] rfl ?_
                      refine W_ret ?_
                      refine br ?_
                      refine tr ?_
                      refine tr ?_
                      refine br ?_
                      refine tr ?_
                      have hcl : cls x = 4 := (by unfold cls; rw [if_neg (by omega)]; rw [if_neg (by omega)]; rw [if_neg (by omega)]; rw [if_neg (by omega)])
                      exact outN (clsS (cls x)) (π := []) (hout := []) Tryd.results75 rfl (by trivial) (by rw [hcl]; rfl) rfl rfl trivial ⟨rfl, rfl⟩
                    · skip
                      try simp only [cs, ne_eq] at hc4
                      refine W_skip ?_
                      refine bn ?_
                      refine tn ?_
                      refine r0 ?_
                      refine sA 15 448 1 rfl rfl rfl rfl rfl rfl rfl rfl rfl (by unfold inRange; omega) ?_
                      refine val 15 (SV.i 5) rfl rfl ?_
                      refine s1 6 456 2 rfl rfl rfl rfl rfl rfl trivial ?_
                      refine e1 464 rfl ?_
                      refine tn ?_
                      refine unr ?_
                      refine r1 ?_
                      refine s1 7 464 1 rfl rfl rfl rfl rfl rfl (by first | trivial | omega) ?_
                      refine e1 472 rfl ?_
                      refine keep [0, 2, 5, 6, 7] rfl ?_
                      refine W_seq ?_
                      refine q1 rfl (fun hc2 => ?_) (fun hc2 => ?_)
                      · skip
                        exact absurd hc2 (by decide)
                      · skip
                        try simp only [cs, ne_eq] at hc2
                        refine W_exit ?_
                        refine tx ?_
                        refine tx ?_
                        refine bx ?_
                        refine tn ?_
                        refine r1 ?_
                        refine s1 16 472 1 rfl rfl rfl rfl rfl rfl (by decide) ?_
                        refine s1 17 480 2 rfl rfl rfl rfl rfl rfl (by decide) ?_
                        refine s0 488 3 rfl rfl rfl rfl rfl (by first | trivial | omega) ?_
                        refine e1 496 rfl ?_
                        refine keep [2] rfl ?_
                        refine W_ret ?_
                        have hcl : cls x = 4 := (by unfold cls; rw [if_neg (by omega)]; rw [if_neg (by omega)]; rw [if_neg (by omega)]; rw [if_neg (by omega)])
                        exact outN (clsS (cls x)) (π := []) (hout := []) Tryd.results75 rfl (by trivial) (by rw [hcl]; rfl) rfl rfl trivial ⟨rfl, rfl⟩
                  · skip
                    exact absurd hc2 (by decide)
              · skip
                exact absurd hc2 (by decide)
          · skip
            exact absurd hc2 (by decide)
      · skip
        exact absurd hc2 (by decide)
  · skip
    exact absurd hc2 (by decide)

theorem zput_any (L : List Int) (hL : AllBits L) (hlen : L.length ≤ 900000) (n : Int) (h : isSm n) : Spec Tryd.prog GC 33 [.ptr 0 0 0, SV.i n] [.cells 65 2 [.sl 1 0 (pack L).length, SV.i L.length], .rows 5 1 (pack L).length (u8F (pack L))] (fun r ho => r = SV.tup [] ∧ ho = [some (.cells 65 2 [.sl 2 0 (pack (zput L n)).length, SV.i (zput L n).length]), none, some (.rows 5 1 (pack (zput L n)).length (u8F (pack (zput L n))))]) := by
  have hz := zFold_bd n h.1 h.2
  refine start 25 2 Tryd.func33 rfl rfl rfl rfl ?_
  refine r1 ?_
  refine s1 8 2 1 rfl rfl rfl rfl rfl rfl trivial ?_
  refine c1 (fold_any n h) [] [] 9 10 2 rfl rfl rfl rfl rfl rfl rfl rfl Tryd.func74 rfl rfl rfl rfl trivial rfl rfl ?_
  refine s1 7 18 3 rfl rfl rfl rfl rfl rfl trivial ?_
  refine s1 10 26 4 rfl rfl rfl rfl rfl rfl trivial ?_
  refine s1 11 34 5 rfl rfl rfl rfl rfl rfl trivial ?_
  refine s1 4 42 6 rfl rfl rfl rfl rfl rfl trivial ?_
  refine s1 5 50 7 rfl rfl rfl rfl rfl rfl trivial ?_
  refine e1 58 rfl ?_
  refine keep [0, 4] rfl ?_
  refine r1 ?_
  refine s1 12 58 1 rfl rfl rfl rfl rfl rfl trivial ?_
  refine c1 (fit_any (zFold n) hz.1) [] [] 13 66 2 rfl rfl rfl rfl rfl rfl rfl rfl Tryd.func75 rfl rfl rfl rfl trivial rfl rfl ?_
  refine s1 6 74 3 rfl rfl rfl rfl rfl rfl trivial ?_
  refine s0 82 4 rfl rfl rfl rfl rfl (by first | trivial | omega) ?_
  refine e1 90 rfl ?_
  refine keep [0, 4, 6] rfl ?_
  refine r1 ?_
  refine s1 14 90 1 rfl rfl rfl rfl rfl rfl trivial ?_
  refine s1 15 98 2 rfl rfl rfl rfl rfl rfl trivial ?_
  refine s1 16 106 3 rfl rfl rfl rfl rfl rfl (by first | trivial | omega) ?_
  refine s1 17 114 4 rfl rfl rfl rfl rfl rfl trivial ?_
  refine s1 18 122 5 rfl rfl rfl rfl rfl rfl (by first | trivial | omega) ?_
  refine c1 (put_any L hL (by omega) (clW (cls (zFold n))) (clH (cls (zFold n))) (clW_le _) (clH_in _)) [0, 1] [0, 1, 130] 19 130 6 rfl rfl rfl rfl rfl rfl rfl rfl Tryd.func30 rfl rfl rfl rfl ⟨rfl, rfl, trivial⟩ rfl rfl ?_
  refine e1 138 rfl ?_
  refine keep [0, 4, 6] rfl ?_
  refine r0 ?_
  refine s1 20 138 1 rfl rfl rfl rfl rfl rfl trivial ?_
  refine s1 21 146 2 rfl rfl rfl rfl rfl rfl trivial ?_
  refine s1 22 154 3 rfl rfl rfl rfl rfl rfl (by first | trivial | omega) ?_
  refine s1 23 162 4 rfl rfl rfl rfl rfl rfl trivial ?_
  refine c1 (put_any (L ++ bitsOf (clW (cls (zFold n))) (clH (cls (zFold n)))) (hL.append (bitsOf_bits _ _)) (by rw [List.length_append, bitsOf_length]; have := clW_le (cls (zFold n)); omega) (clB (cls (zFold n))) (zFold n) (clB_le _) ⟨by omega, by omega⟩) [0, 130] [0, 130, 170] 24 170 5 rfl rfl rfl rfl rfl rfl rfl rfl Tryd.func30 rfl rfl rfl rfl ⟨rfl, rfl, trivial⟩ rfl rfl ?_
  refine e1 178 rfl ?_
  exact out0 (π := [0, 1, 170]) (hout := [some (.cells 65 2 [.sl 2 0 (pack (zput L n)).length, SV.i (zput L n).length]), none, some (.rows 5 1 (pack (zput L n)).length (u8F (pack (zput L n))))]) Tryd.results33 rfl rfl ⟨rfl, rfl, trivial⟩ ⟨rfl, rfl⟩

theorem bytes_any (L : List Int) : Spec Tryd.prog GC 35 [.ptr 0 0 0] [.cells 65 2 [.sl 1 0 (pack L).length, SV.i L.length], .rows 5 1 (pack L).length (u8F (pack L))] (fun r ho => r = .sl 1 0 (pack L).length ∧ ho = [some (.cells 65 2 [.sl 1 0 (pack L).length, SV.i L.length]), some (.rows 5 1 (pack L).length (u8F (pack L)))]) := by
  refine start 7 2 Tryd.func35 rfl rfl rfl rfl ?_
  refine r1 ?_
  refine s1 2 2 1 rfl rfl rfl rfl rfl rfl trivial ?_
  refine e1 10 rfl ?_
  refine keep [0] rfl ?_
  refine r1 ?_
  refine s1 3 10 1 rfl rfl rfl rfl rfl rfl trivial ?_
  refine s1 4 18 2 rfl rfl rfl rfl rfl rfl trivial ?_
  refine s1 5 26 3 rfl rfl rfl rfl rfl rfl trivial ?_
  refine s1 6 34 4 rfl rfl rfl rfl rfl rfl (by first | trivial | omega) ?_
  refine s1 2 42 5 rfl rfl rfl rfl rfl rfl trivial ?_
  refine e1 50 rfl ?_
  refine keep [2] rfl ?_
  refine W_ret ?_
  exact out1 2 (.sl 1 0 (pack L).length) (π := [0, 1]) (hout := [some (.cells 65 2 [.sl 1 0 (pack L).length, SV.i L.length]), some (.rows 5 1 (pack L).length (u8F (pack L)))]) Tryd.results35 rfl rfl rfl rfl ⟨rfl, rfl, trivial⟩ ⟨rfl, rfl⟩

end Go.Proofs.YtpdojmebloekgaaDoor.Nice.Co
