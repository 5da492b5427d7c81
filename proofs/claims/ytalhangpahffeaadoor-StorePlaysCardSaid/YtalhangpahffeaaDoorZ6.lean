/- Part 6 of the proof of StorePlays: ChunkPen, ChunkEnc, ChunkRef, RollOf. -/
import Derived.Test.YtalhangpahffeaaDoorZ5
import Derived.Test.YtalhangpahffeaaDoorProg
namespace Go.Proofs.YtalhangpahffeaaDoor.Nice
open Go
set_option linter.unusedVariables false
set_option linter.unusedSimpArgs false
set_option maxRecDepth 100000
set_option maxHeartbeats 4000000
def u8F (l : List Int) : Nat → Nat → D := fun i _ => .val (.int .u8 (l.getD i 0))
def u8V (l : List Int) : SV := .d (.vec 1 l.length (u8F l))
theorem room_get (M : List Int) (j : Nat) (h : j < M.length / 8 + 1) : (packRoom M).getD j 0 = packByte M j := by rw [List.getD, packRoom_get M j h]; rfl
theorem room_cat {M : List Int} (h : M.length % 8 = 0) (i c : Nat) (hi : i < (pack M).length + 1) (hc : c < 1) : catR (u8F (pack M)) (pack M).length (litR 1 [.val (.int .u8 0)]) i c = u8F (packRoom M) i c := by
 obtain rfl : c = 0 := by omega
 have e : packRoom M = pack M ++ [0] := by unfold packRoom; rw [if_pos h]
 unfold catR u8F
 rw [e]
 by_cases hlt : i < (pack M).length
 · rw [if_pos hlt]; simp [List.getD, List.getElem?_append_left hlt]
 · obtain rfl : i = (pack M).length := by omega
   rw [if_neg (Nat.lt_irrefl _), Nat.sub_self]
   have : (pack M ++ [0]).getD (pack M).length 0 = 0 := by simp [List.getD]
   rw [this]; rfl
theorem room_same {M : List Int} (h : ¬ M.length % 8 = 0) : packRoom M = pack M := by unfold packRoom; rw [if_neg h]
theorem room_set {M : List Int} (hM : AllBits M) (b x : Int) (hx : x = packByte M (M.length / 8) + b * 2 ^ (7 - M.length % 8)) (i c : Nat) (hi : i < (packRoom M).length) (hc : c < 1) :
   updR (u8F (packRoom M)) (M.length / 8) 0 [.val (.int .u8 x)] i c = u8F (pack (M ++ [b])) i c := by
 obtain rfl : c = 0 := by omega
 subst hx
 rw [pack_snoc M hM b]
 unfold updR u8F
 by_cases h : i = M.length / 8
 · subst h
   simp [List.getD, hi]
 · rw [if_neg (fun e => h e.1)]
   rw [packRoom_length] at hi
   simp [List.getD, Ne.symm h]
theorem room_len {M : List Int} (b : Int) : (packRoom M).length = (pack (M ++ [b])).length := by rw [packRoom_length, pack_length]; simp; omega
theorem shr_val {k v : Int} {q : Nat} (h : k = q) (hq : q ≤ 64) : v.fdiv (2 ^ (min k.toNat 64)) = v / 2 ^ q := by
 subst h
 rw [Int.toNat_natCast, Nat.min_eq_left hq, Int.fdiv_eq_ediv_of_nonneg _ (Int.le_of_lt (Int.pow_pos (by decide)))]
theorem bit_01 (v : Int) (q : Nat) : v / 2 ^ q % 2 = 0 ∨ v / 2 ^ q % 2 = 1 := by generalize v / 2 ^ q = u; omega
theorem and_bit {v : Int} (hv : inRange v) (q : Nat) : IntKind.u8.wrap (bits .and .i64 (v / 2 ^ q) 1) = v / 2 ^ q % 2 := by
 unfold inRange at hv
 have hd := div_pow_bd v q (by omega) (by omega)
 rw [i64_and_one _ hd.1 hd.2]
 have := bit_01 v q
 generalize v / 2 ^ q % 2 = b at *
 rcases this with rfl | rfl <;> decide
theorem shl_bit {b k : Int} {r : Nat} (hb : b = 0 ∨ b = 1) (hr : r < 8) (hk : k = 7 - r) : IntKind.u8.wrap (b * 2 ^ (min k.toNat 8)) = b * 2 ^ (7 - r) := by
 subst hk
 have e : r = 0 ∨ r = 1 ∨ r = 2 ∨ r = 3 ∨ r = 4 ∨ r = 5 ∨ r = 6 ∨ r = 7 := by omega
 rcases hb with rfl | rfl <;> rcases e with rfl | rfl | rfl | rfl | rfl | rfl | rfl | rfl <;> decide
def clL : List Int := [0, 1, 0, 2, 2, 6, 6, 3, 12, 14, 4, 24, 15, 4, 59]
def clF : Nat → Nat → D := fun _ c => .val (.int .i64 (clL.getD c 0))
def GC : Nat → SV
 | 0 => .vp 15 1 clF 0 0
 | _ => .any
def cls (x : Int) : Nat := if x = 0 then 0 else if x < 64 then 1 else if x < 4096 then 2 else if x < 16777216 then 3 else 4
def clH (n : Nat) : Int := [0, 2, 6, 14, 15].getD n 0
def clW (n : Nat) : Nat := [1, 2, 3, 4, 4].getD n 0
def clB (n : Nat) : Nat := [0, 6, 12, 24, 59].getD n 0
def clsS (n : Nat) : SV := .agg [SV.i (clH n), SV.i (clW n), SV.i (clB n)]
theorem cls_lt (x : Int) : cls x < 5 := by unfold cls; repeat' split <;> try omega
theorem clW_le (n : Nat) : clW n ≤ 60 := by
 unfold clW
 match n with
 | 0 | 1 | 2 | 3 | 4 => decide
 | n + 5 => simp
theorem clB_le (n : Nat) : clB n ≤ 60 := by
 unfold clB
 match n with
 | 0 | 1 | 2 | 3 | 4 => decide
 | n + 5 => simp
theorem clH_in (n : Nat) : inRange (clH n) := by
 unfold clH inRange
 match n with
 | 0 | 1 | 2 | 3 | 4 => decide
 | n + 5 => simp
def zput (L : List Int) (n : Int) : List Int := (L ++ bitsOf (clW (cls (zFold n))) (clH (cls (zFold n)))) ++ bitsOf (clB (cls (zFold n))) (zFold n)
def zbits (n : Int) : List Int := bitsOf (clW (cls (zFold n))) (clH (cls (zFold n))) ++ bitsOf (clB (cls (zFold n))) (zFold n)
theorem zput_eq (L : List Int) (n : Int) : zput L n = L ++ zbits n := by unfold zput zbits; rw [List.append_assoc]
theorem zput_bits {L : List Int} (h : AllBits L) (n : Int) : AllBits (zput L n) := (h.append (bitsOf_bits _ _)).append (bitsOf_bits _ _)
theorem zput_len (L : List Int) (n : Int) : (zput L n).length ≤ L.length + 120 := by
 unfold zput
 rw [List.length_append, List.length_append, bitsOf_length, bitsOf_length]
 have := clW_le (cls (zFold n)); have := clB_le (cls (zFold n)); omega
def isSm (n : Int) : Prop := -288230376151711744 ≤ n ∧ n < 288230376151711744
theorem fold_xor {n : Int} (h : isSm n) {a b : Int} (ha : a = n * 2) (hb : b = n / 9223372036854775808) : bits .xor .i64 a b = zFold n := by subst ha; subst hb; exact zFold_xor n h.1 h.2
theorem shl1 {n : Int} (h : isSm n) : IntKind.i64.wrap (n * 2 ^ (min (1 : Int).toNat 64)) = n * 2 := by
 have : (2 : Int) ^ (min (1 : Int).toNat 64) = 2 := rfl
 rw [this]; obtain ⟨h1, h2⟩ := h; exact wrap_in ⟨by omega, by omega⟩
theorem shr63 (n : Int) : n.fdiv (2 ^ (min (63 : Int).toNat 64)) = n / 9223372036854775808 := shr_val (k := 63) (q := 63) rfl (by decide)
theorem put_any (L : List Int) (hL : AllBits L) (hlen : L.length ≤ 1000000) (w : Nat) (v : Int) (hw : w ≤ 60) (hv : inRange v) : Spec Tryd.prog GC 63 [.ptr 0 0 0, SV.i w, SV.i v] [.cells 122 2 [.sl 1 0 (pack L).length, SV.i L.length], .rows 5 1 (pack L).length (u8F (pack L))] (fun r ho => r = SV.tup [] ∧ ho = [some (.cells 122 2 [.sl 2 0 (pack (L ++ bitsOf w v)).length, SV.i (L ++ bitsOf w v).length]), none, some (.rows 5 1 (pack (L ++ bitsOf w v)).length (u8F (pack (L ++ bitsOf w v))))]) := by
 refine start 60 2 Tryd.func63 rfl rfl rfl rfl ?_
 refine r1 <| sT 7 2 1 rfl <| sAO 8 10 2 rfl <| sT 6 18 3 rfl <| e1 26 rfl <| keep [0, 2, 6] rfl <| W_block <| rename 1 rfl rfl ?_
 refine loop (α := Nat × List Int × Int) 3 (fun z => [(0, .ptr 0 0 0), (2, SV.i v), (6, SV.i (z.2.2))]) (fun z => [some (.cells 122 2 [.sl 2 0 (pack (z.2.1)).length, SV.i (z.2.1).length]), none, some (.rows 5 1 (pack (z.2.1)).length (u8F (pack (z.2.1))))]) (fun z => (z.1) ≤ w ∧ (z.2.1) = L ++ (bitsOf w v).take (z.1) ∧ (z.2.2) = w - 1 - (z.1)) (fun z => w - (z.1)) (((0, L, (w : Int) - 1) : Nat × List Int × Int)) [0, 1, 26] (fun _ => rfl) (show (0) ≤ w ∧ (L) = L ++ (bitsOf w v).take (0) ∧ ((w : Int) - 1) = w - 1 - (0) from ⟨Nat.zero_le _, by simp, by simp⟩) rfl ⟨rfl, rfl, rfl, trivial⟩ ⟨rfl, rfl, trivial⟩ (fun z hx => ?_)
 obtain ⟨j, M, k⟩ := z
 show W _ _ _ ⟨tOf [(0, .ptr 0 0 0), (2, SV.i v), (6, SV.i k)], hOf [some (.cells 122 2 [.sl 2 0 (pack M).length, SV.i M.length]), none, some (.rows 5 1 (pack M).length (u8F (pack M)))], 3⟩
 have hx : j ≤ w ∧ M = L ++ (bitsOf w v).take j ∧ k = w - 1 - j := hx
 obtain ⟨hj, hM, hk⟩ := hx
 have hA : AllBits M := (by rw [hM]; exact hL.append ((bitsOf_bits w v).take j))
 have hMl : M.length ≤ 1000060 := (by rw [hM, List.length_append, List.length_take, bitsOf_length]; omega)
 have hpl : (pack M).length ≤ 200000 := (by rw [pack_length]; omega)
 have hrl := packRoom_length M
 refine W_seq <| r1 <| sT 9 3 1 rfl <| sO 10 11 2 rfl <| e1 19 rfl <| keep [0, 2, 6, 10] rfl ?_
 refine q1 rfl (fun hc1 => ?_) (fun hc1 => ?_)
 try simp only [cs, ne_eq] at hc1
 refine W_skip <| tn <| W_seq <| W_block <| W_seq <| r1 <| sT 13 19 1 rfl <| sT 14 27 2 rfl <| sT 15 35 3 rfl <| sO 16 43 4 rfl ?_
 refine sD 17 51 5 rfl rfl rfl rfl rfl rfl rfl rfl rfl (by omega) ?_
 refine sO 18 59 6 rfl <| e1 67 rfl <| keep [0, 2, 6, 18] rfl ?_
 refine q1 rfl (fun hc3 => ?_) (fun hc3 => ?_)
 try simp only [cs, ne_eq] at hc3
 refine r0 ?_
 refine sT 19 67 1 rfl <| sT 20 75 2 rfl <| sT 21 83 3 rfl <| sT 22 91 4 rfl <| sO 23 99 5 rfl <| sT 24 107 6 rfl ?_
 refine sV 25 115 7 rfl ⟨Nat.le_refl _, trivial, (by show ((pack M).length + 1) * 1 ≤ 140737488355328; omega), (by simp only [maxLen]; omega)⟩ ?_
 refine sT 26 123 8 rfl <| sT 27 131 9 rfl <| s0O 139 10 rfl rfl rfl rfl rfl <| e1 147 rfl <| tn ?_
 refine rowsc 115 (packRoom M).length (u8F (packRoom M)) rfl (by rw [hrl, pack_length]; omega) (fun i c hi hc => room_cat (by omega) i c hi hc) ?_
 refine chval 0 (.cells 122 2 [.sl 115 0 (packRoom M).length, SV.i M.length]) rfl (by rw [show (packRoom M).length = (pack M).length + 1 from (by rw [hrl, pack_length]; omega)]; try rfl) ?_
 refine rd1 rfl ?_
 refine dT 28 147 1 rfl <| dT 29 155 2 rfl <| dT 30 163 3 rfl <| dO 31 171 4 rfl <| dT 32 179 5 rfl <| dT 33 187 6 rfl <| dT 34 195 7 rfl <| dO 35 203 8 rfl ?_
 refine dD 36 211 9 rfl rfl rfl rfl rfl rfl rfl rfl rfl (by omega) ?_
 refine dO 37 219 10 rfl ?_
 refine val 37 (.ptr 115 (M.length / 8) 0) rfl (by rw [show ((M.length : Int) / 8).toNat = M.length / 8 by omega, Nat.zero_add]) ?_
 refine dO 38 227 11 rfl ?_
 refine val 38 (.d (.val (.int .u8 (packByte M (M.length / 8))))) rfl (by rw [room_get M _ (by omega)]) ?_
 refine dT 39 235 12 rfl <| dT 40 243 13 rfl ?_
 refine dV 41 251 14 rfl (by show 0 ≤ k; omega) ?_
 refine val 41 (SV.i (v / 2 ^ (w - 1 - j))) rfl (congrArg (fun x => SV.d (D.val (Value.int .i64 x))) (shr_val (by omega) (by omega))) ?_
 refine dO 42 259 15 rfl <| dT 43 267 16 rfl ?_
 refine val 43 (.d (.val (.int .u8 (v / 2 ^ (w - 1 - j) % 2)))) rfl (congrArg (fun x => SV.d (D.val (Value.int .u8 x))) (and_bit hv _)) ?_
 refine dT 44 275 17 rfl <| dT 45 283 18 rfl <| dT 46 291 19 rfl <| dO 47 299 20 rfl ?_
 refine dD 48 307 21 rfl rfl rfl rfl rfl rfl rfl rfl rfl (by omega) ?_
 refine dAO 49 315 22 rfl <| dO 50 323 23 rfl ?_
 refine val 50 (.d (.val (.int .u8 ((v / 2 ^ (w - 1 - j) % 2) * 2 ^ (7 - M.length % 8))))) rfl (congrArg (fun x => SV.d (D.val (Value.int .u8 x))) (shl_bit (bit_01 _ _) (by omega) (by omega))) ?_
 refine dO 51 331 24 rfl ?_
 refine val 51 (.d (.val (.int .u8 (packByte M (M.length / 8) + (v / 2 ^ (w - 1 - j) % 2) * 2 ^ (7 - M.length % 8))))) rfl (congrArg (fun x => SV.d (D.val (Value.int .u8 x))) (pack_or M hA _ (bit_01 _ _)).1) ?_
 refine dO 52 339 25 rfl ?_
 refine val 52 (.ptr 115 (M.length / 8) 0) rfl (by rw [show ((M.length : Int) / 8).toNat = M.length / 8 by omega, Nat.zero_add]) ?_
 refine d0 347 26 rfl rfl rfl rfl rfl (by omega) ?_
 refine de1 355 rfl (by kernel_rfl) <| keep [0, 2, 6] rfl ?_
 refine r0 ?_
 refine sT 53 355 1 rfl <| sT 54 363 2 rfl <| sT 55 371 3 rfl <| sO 56 379 4 rfl <| sAO 57 387 5 rfl <| sT 58 395 6 rfl <| sT 59 403 7 rfl <| s0O 411 8 rfl rfl rfl rfl rfl <| e1 419 rfl <| bn <| tn ?_
 refine rowsc 115 (pack (M ++ [(v / 2 ^ (w - 1 - j) % 2)])).length (u8F (pack (M ++ [(v / 2 ^ (w - 1 - j) % 2)]))) rfl (room_len _) (fun i c hi hc => room_set hA _ _ rfl i c hi hc) ?_
 refine chval 0 (.cells 122 2 [.sl 115 0 (pack (M ++ [(v / 2 ^ (w - 1 - j) % 2)])).length, SV.i (M ++ [(v / 2 ^ (w - 1 - j) % 2)]).length]) rfl (by rw [← room_len, List.length_append]; rfl) ?_
 refine r0 ?_
 refine sT 11 419 1 rfl <| sAO 12 427 2 rfl <| sT 6 435 3 rfl <| e1 443 rfl <| tn ?_
 exact again (((j + 1, M ++ [(v / 2 ^ (w - 1 - j) % 2)], k - 1) : Nat × List Int × Int)) [0, 1, 115] (show (j + 1) ≤ w ∧ (M ++ [(v / 2 ^ (w - 1 - j) % 2)]) = L ++ (bitsOf w v).take (j + 1) ∧ (k - 1) = w - 1 - (j + 1) from ⟨by omega, by rw [hM, bitsOf_take w j v (by omega), List.append_assoc], by omega⟩) (show w - (j + 1) < w - j from (by omega)) rfl ⟨rfl, rfl, rfl, trivial⟩ ⟨rfl, rfl, trivial⟩
 try simp only [cs, ne_eq] at hc3
 refine W_skip <| tn ?_
 refine rowsc 2 (packRoom M).length (u8F (packRoom M)) rfl (by rw [room_same (by omega)]) (fun i c hi hc => by rw [room_same (by omega)]) ?_
 refine chval 0 (.cells 122 2 [.sl 2 0 (packRoom M).length, SV.i M.length]) rfl (by rw [room_same (by omega)]; try rfl) ?_
 refine rd1 rfl ?_
 refine dT 28 67 1 rfl <| dT 29 75 2 rfl <| dT 30 83 3 rfl <| dO 31 91 4 rfl <| dT 32 99 5 rfl <| dT 33 107 6 rfl <| dT 34 115 7 rfl <| dO 35 123 8 rfl ?_
 refine dD 36 131 9 rfl rfl rfl rfl rfl rfl rfl rfl rfl (by omega) ?_
 refine dO 37 139 10 rfl ?_
 refine val 37 (.ptr 2 (M.length / 8) 0) rfl (by rw [show ((M.length : Int) / 8).toNat = M.length / 8 by omega, Nat.zero_add]) ?_
 refine dO 38 147 11 rfl ?_
 refine val 38 (.d (.val (.int .u8 (packByte M (M.length / 8))))) rfl (by rw [room_get M _ (by omega)]) ?_
 refine dT 39 155 12 rfl <| dT 40 163 13 rfl ?_
 refine dV 41 171 14 rfl (by show 0 ≤ k; omega) ?_
 refine val 41 (SV.i (v / 2 ^ (w - 1 - j))) rfl (congrArg (fun x => SV.d (D.val (Value.int .i64 x))) (shr_val (by omega) (by omega))) ?_
 refine dO 42 179 15 rfl <| dT 43 187 16 rfl ?_
 refine val 43 (.d (.val (.int .u8 (v / 2 ^ (w - 1 - j) % 2)))) rfl (congrArg (fun x => SV.d (D.val (Value.int .u8 x))) (and_bit hv _)) ?_
 refine dT 44 195 17 rfl <| dT 45 203 18 rfl <| dT 46 211 19 rfl <| dO 47 219 20 rfl ?_
 refine dD 48 227 21 rfl rfl rfl rfl rfl rfl rfl rfl rfl (by omega) ?_
 refine dAO 49 235 22 rfl <| dO 50 243 23 rfl ?_
 refine val 50 (.d (.val (.int .u8 ((v / 2 ^ (w - 1 - j) % 2) * 2 ^ (7 - M.length % 8))))) rfl (congrArg (fun x => SV.d (D.val (Value.int .u8 x))) (shl_bit (bit_01 _ _) (by omega) (by omega))) ?_
 refine dO 51 251 24 rfl ?_
 refine val 51 (.d (.val (.int .u8 (packByte M (M.length / 8) + (v / 2 ^ (w - 1 - j) % 2) * 2 ^ (7 - M.length % 8))))) rfl (congrArg (fun x => SV.d (D.val (Value.int .u8 x))) (pack_or M hA _ (bit_01 _ _)).1) ?_
 refine dO 52 259 25 rfl ?_
 refine val 52 (.ptr 2 (M.length / 8) 0) rfl (by rw [show ((M.length : Int) / 8).toNat = M.length / 8 by omega, Nat.zero_add]) ?_
 refine d0 267 26 rfl rfl rfl rfl rfl (by omega) ?_
 refine de1 275 rfl (by kernel_rfl) <| keep [0, 2, 6] rfl ?_
 refine r0 ?_
 refine sT 53 275 1 rfl <| sT 54 283 2 rfl <| sT 55 291 3 rfl <| sO 56 299 4 rfl <| sAO 57 307 5 rfl <| sT 58 315 6 rfl <| sT 59 323 7 rfl <| s0O 331 8 rfl rfl rfl rfl rfl <| e1 339 rfl <| bn <| tn ?_
 refine rowsc 2 (pack (M ++ [(v / 2 ^ (w - 1 - j) % 2)])).length (u8F (pack (M ++ [(v / 2 ^ (w - 1 - j) % 2)]))) rfl (room_len _) (fun i c hi hc => room_set hA _ _ rfl i c hi hc) ?_
 refine chval 0 (.cells 122 2 [.sl 2 0 (pack (M ++ [(v / 2 ^ (w - 1 - j) % 2)])).length, SV.i (M ++ [(v / 2 ^ (w - 1 - j) % 2)]).length]) rfl (by rw [← room_len, List.length_append]; rfl) ?_
 refine r0 ?_
 refine sT 11 339 1 rfl <| sAO 12 347 2 rfl <| sT 6 355 3 rfl <| e1 363 rfl <| tn ?_
 exact again (((j + 1, M ++ [(v / 2 ^ (w - 1 - j) % 2)], k - 1) : Nat × List Int × Int)) [0, 1, 2] (show (j + 1) ≤ w ∧ (M ++ [(v / 2 ^ (w - 1 - j) % 2)]) = L ++ (bitsOf w v).take (j + 1) ∧ (k - 1) = w - 1 - (j + 1) from ⟨by omega, by rw [hM, bitsOf_take w j v (by omega), List.append_assoc], by omega⟩) (show w - (j + 1) < w - j from (by omega)) rfl ⟨rfl, rfl, rfl, trivial⟩ ⟨rfl, rfl, trivial⟩
 try simp only [cs, ne_eq] at hc1
 refine W_exit <| tx <| tx <| bx ?_
 obtain rfl : M = L ++ bitsOf w v := (by rw [hM, List.take_of_length_le (by rw [bitsOf_length]; omega)])
 exact out0 (π := [0, 1, 2]) (hout := [some (.cells 122 2 [.sl 2 0 (pack (L ++ bitsOf w v)).length, SV.i (L ++ bitsOf w v).length]), none, some (.rows 5 1 (pack (L ++ bitsOf w v)).length (u8F (pack (L ++ bitsOf w v))))]) Tryd.results63 rfl rfl ⟨rfl, rfl, trivial⟩ ⟨rfl, rfl⟩
theorem small_any (n : Int) : Spec Tryd.prog GC 77 [SV.i n] [] (fun r ho => r = SV.b (decide (-288230376151711744 ≤ n) && decide (n < 288230376151711744)) ∧ ho = []) := by
 refine start 9 0 Tryd.func77 rfl rfl rfl rfl ?_
 refine r1 <| sT 2 0 1 rfl <| e1 8 rfl <| keep [0] rfl <| r1 <| sT 3 8 1 rfl <| sO 4 16 2 rfl <| sT 5 24 3 rfl ?_
 refine ask 5 rfl (fun hg1_5 => ?_) (fun hg1_5 => ?_)
 try simp only [cs, ne_eq] at hg1_5
 refine gT 2 true 5 4 rfl rfl <| sT 6 32 4 rfl <| gT 2 true 5 5 rfl rfl <| sO 7 40 5 rfl <| sT 8 48 6 rfl <| sT 2 56 7 rfl <| e1 64 rfl <| keep [2] rfl <| W_ret ?_
 exact out1 2 (SV.b (decide (-288230376151711744 ≤ n) && decide (n < 288230376151711744))) (π := []) (hout := []) Tryd.results77 rfl (by show SV.b _ = SV.b _; refine congrArg SV.b (Bool.eq_iff_iff.2 ?_); simp at *; try omega) rfl rfl trivial ⟨rfl, rfl⟩
 try simp only [cs, ne_eq] at hg1_5
 refine gF 2 true 5 6 4 rfl rfl <| gF 2 true 5 7 5 rfl rfl <| sT 8 48 6 rfl <| sT 2 56 7 rfl <| e1 64 rfl <| keep [2] rfl <| W_ret ?_
 exact out1 2 (SV.b (decide (-288230376151711744 ≤ n) && decide (n < 288230376151711744))) (π := []) (hout := []) Tryd.results77 rfl (by show SV.b _ = SV.b _; refine congrArg SV.b (Bool.eq_iff_iff.2 ?_); simp at *; try omega) rfl rfl trivial ⟨rfl, rfl⟩
theorem fold_any (n : Int) (h : isSm n) : Spec Tryd.prog GC 75 [SV.i n] [] (fun r ho => r = SV.tup [SV.i (zFold n), SV.i 0] ∧ ho = []) := by
 refine start 12 0 Tryd.func75 rfl rfl rfl rfl ?_
 refine r1 <| sT 2 0 1 rfl <| sT 3 8 2 rfl <| e1 16 rfl <| keep [0] rfl <| W_seq <| r1 <| sT 4 16 1 rfl ?_
 refine c1 (small_any n) [] [] 5 24 2 rfl rfl rfl rfl rfl rfl rfl rfl Tryd.func77 rfl rfl rfl rfl trivial rfl rfl ?_
 refine sT 6 32 3 rfl <| e1 40 rfl <| keep [0, 6] rfl ?_
 refine q1 rfl (fun hc1 => ?_) (fun hc1 => ?_)
 exfalso; have := h.1; have := h.2; simp at hc1; omega
 try simp only [cs, ne_eq] at hc1
 refine W_skip <| tn <| r1 <| sT 7 40 1 rfl ?_
 refine sV 8 48 2 rfl (by decide) ?_
 refine val 8 (SV.i (n * 2)) rfl (congrArg (fun x => SV.d (D.val (Value.int .i64 x))) (shl1 h)) ?_
 refine sT 9 56 3 rfl ?_
 refine sV 10 64 4 rfl (by decide) ?_
 refine val 10 (SV.i (n / 9223372036854775808)) rfl (congrArg (fun x => SV.d (D.val (Value.int .i64 x))) (shr63 n)) ?_
 refine sO 11 72 5 rfl ?_
 refine val 11 (SV.i (zFold n)) rfl (congrArg (fun x => SV.d (D.val (Value.int .i64 x))) (fold_xor h rfl rfl)) ?_
 refine sT 2 80 6 rfl <| sT 3 88 7 rfl <| e1 96 rfl <| keep [2, 3] rfl <| W_ret ?_
 exact out2 2 3 (SV.i (zFold n)) (SV.i 0) (π := []) (hout := []) Tryd.results75 rfl rfl rfl rfl rfl rfl trivial ⟨rfl, rfl⟩
theorem fit_any (x : Int) (h0 : 0 ≤ x) : Spec Tryd.prog GC 73 [SV.i x] [] (fun r ho => r = clsS (cls x) ∧ ho = []) := by
 refine start 18 0 Tryd.func73 rfl rfl rfl rfl ?_
 refine r1 <| sT 2 0 1 rfl <| e1 8 rfl <| keep [0, 2] rfl <| W_seq <| r1 <| sO 5 8 1 rfl <| sT 6 16 2 rfl <| e1 24 rfl <| keep [0, 2, 5, 6] rfl <| W_block ?_
 refine W_unroll 6 ?_
 refine unr ?_
 refine r1 <| sO 7 24 1 rfl <| e1 32 rfl <| keep [0, 2, 5, 6, 7] rfl <| W_seq ?_
 refine q1 rfl (fun hc2 => ?_) (fun hc2 => ?_)
 try simp only [cs, ne_eq] at hc2
 refine W_skip <| tn <| W_seq <| W_block <| r1 ?_
 refine sIdxA 8 32 1 rfl rfl rfl rfl rfl rfl rfl (by decide) ?_
 refine sT 4 40 2 rfl <| s0O 48 3 rfl rfl rfl rfl rfl <| e1 56 rfl <| keep [0, 2, 4, 5, 6] rfl <| r1 <| sT 9 56 1 rfl <| sT 10 64 2 rfl <| sO 11 72 3 rfl ?_
 refine val 11 (SV.i 0) rfl rfl ?_
 refine sV 12 80 4 rfl (by decide) ?_
 refine val 12 (SV.i (x / 2 ^ 0)) rfl (congrArg (fun x => SV.d (D.val (Value.int .i64 x))) (shr_val (k := 0) (q := 0) rfl (by decide))) ?_
 refine sO 13 88 5 rfl <| e1 96 rfl <| keep [0, 2, 4, 5, 6, 13] rfl ?_
 refine q1 rfl (fun hc4 => ?_) (fun hc4 => ?_)
 try simp only [cs, ne_eq] at hc4
 refine r1 <| sO 14 96 1 rfl <| s0O 104 2 rfl rfl rfl rfl rfl <| e1 112 rfl <| keep [2] rfl <| W_ret <| br <| tr <| tr <| br <| tr ?_
 have hcl : cls x = 0 := (by unfold cls; rw [if_pos (by omega)])
 exact outN (clsS (cls x)) (π := []) (hout := []) Tryd.results73 rfl (by trivial) (by rw [hcl]; rfl) rfl rfl trivial ⟨rfl, rfl⟩
 try simp only [cs, ne_eq] at hc4
 refine W_skip <| bn <| tn ?_
 refine r0 ?_
 refine sAO 15 96 1 rfl ?_
 refine val 15 (SV.i 1) rfl rfl ?_
 refine sT 6 104 2 rfl <| e1 112 rfl <| tn ?_
 refine unr ?_
 refine r1 <| sO 7 112 1 rfl <| e1 120 rfl <| keep [0, 2, 5, 6, 7] rfl <| W_seq ?_
 refine q1 rfl (fun hc2 => ?_) (fun hc2 => ?_)
 try simp only [cs, ne_eq] at hc2
 refine W_skip <| tn <| W_seq <| W_block <| r1 ?_
 refine sIdxA 8 120 1 rfl rfl rfl rfl rfl rfl rfl (by decide) ?_
 refine sT 4 128 2 rfl <| s0O 136 3 rfl rfl rfl rfl rfl <| e1 144 rfl <| keep [0, 2, 4, 5, 6] rfl <| r1 <| sT 9 144 1 rfl <| sT 10 152 2 rfl <| sO 11 160 3 rfl ?_
 refine val 11 (SV.i 6) rfl rfl ?_
 refine sV 12 168 4 rfl (by decide) ?_
 refine val 12 (SV.i (x / 2 ^ 6)) rfl (congrArg (fun x => SV.d (D.val (Value.int .i64 x))) (shr_val (k := 6) (q := 6) rfl (by decide))) ?_
 refine sO 13 176 5 rfl <| e1 184 rfl <| keep [0, 2, 4, 5, 6, 13] rfl ?_
 refine q1 rfl (fun hc4 => ?_) (fun hc4 => ?_)
 try simp only [cs, ne_eq] at hc4
 refine r1 <| sO 14 184 1 rfl <| s0O 192 2 rfl rfl rfl rfl rfl <| e1 200 rfl <| keep [2] rfl <| W_ret <| br <| tr <| tr <| br <| tr ?_
 have hcl : cls x = 1 := (by unfold cls; rw [if_neg (by omega)]; rw [if_pos (by omega)])
 exact outN (clsS (cls x)) (π := []) (hout := []) Tryd.results73 rfl (by trivial) (by rw [hcl]; rfl) rfl rfl trivial ⟨rfl, rfl⟩
 try simp only [cs, ne_eq] at hc4
 refine W_skip <| bn <| tn ?_
 refine r0 ?_
 refine sAO 15 184 1 rfl ?_
 refine val 15 (SV.i 2) rfl rfl ?_
 refine sT 6 192 2 rfl <| e1 200 rfl <| tn ?_
 refine unr ?_
 refine r1 <| sO 7 200 1 rfl <| e1 208 rfl <| keep [0, 2, 5, 6, 7] rfl <| W_seq ?_
 refine q1 rfl (fun hc2 => ?_) (fun hc2 => ?_)
 try simp only [cs, ne_eq] at hc2
 refine W_skip <| tn <| W_seq <| W_block <| r1 ?_
 refine sIdxA 8 208 1 rfl rfl rfl rfl rfl rfl rfl (by decide) ?_
 refine sT 4 216 2 rfl <| s0O 224 3 rfl rfl rfl rfl rfl <| e1 232 rfl <| keep [0, 2, 4, 5, 6] rfl <| r1 <| sT 9 232 1 rfl <| sT 10 240 2 rfl <| sO 11 248 3 rfl ?_
 refine val 11 (SV.i 12) rfl rfl ?_
 refine sV 12 256 4 rfl (by decide) ?_
 refine val 12 (SV.i (x / 2 ^ 12)) rfl (congrArg (fun x => SV.d (D.val (Value.int .i64 x))) (shr_val (k := 12) (q := 12) rfl (by decide))) ?_
 refine sO 13 264 5 rfl <| e1 272 rfl <| keep [0, 2, 4, 5, 6, 13] rfl ?_
 refine q1 rfl (fun hc4 => ?_) (fun hc4 => ?_)
 try simp only [cs, ne_eq] at hc4
 refine r1 <| sO 14 272 1 rfl <| s0O 280 2 rfl rfl rfl rfl rfl <| e1 288 rfl <| keep [2] rfl <| W_ret <| br <| tr <| tr <| br <| tr ?_
 have hcl : cls x = 2 := (by unfold cls; rw [if_neg (by omega)]; rw [if_neg (by omega)]; rw [if_pos (by omega)])
 exact outN (clsS (cls x)) (π := []) (hout := []) Tryd.results73 rfl (by trivial) (by rw [hcl]; rfl) rfl rfl trivial ⟨rfl, rfl⟩
 try simp only [cs, ne_eq] at hc4
 refine W_skip <| bn <| tn ?_
 refine r0 ?_
 refine sAO 15 272 1 rfl ?_
 refine val 15 (SV.i 3) rfl rfl ?_
 refine sT 6 280 2 rfl <| e1 288 rfl <| tn ?_
 refine unr ?_
 refine r1 <| sO 7 288 1 rfl <| e1 296 rfl <| keep [0, 2, 5, 6, 7] rfl <| W_seq ?_
 refine q1 rfl (fun hc2 => ?_) (fun hc2 => ?_)
 try simp only [cs, ne_eq] at hc2
 refine W_skip <| tn <| W_seq <| W_block <| r1 ?_
 refine sIdxA 8 296 1 rfl rfl rfl rfl rfl rfl rfl (by decide) ?_
 refine sT 4 304 2 rfl <| s0O 312 3 rfl rfl rfl rfl rfl <| e1 320 rfl <| keep [0, 2, 4, 5, 6] rfl <| r1 <| sT 9 320 1 rfl <| sT 10 328 2 rfl <| sO 11 336 3 rfl ?_
 refine val 11 (SV.i 24) rfl rfl ?_
 refine sV 12 344 4 rfl (by decide) ?_
 refine val 12 (SV.i (x / 2 ^ 24)) rfl (congrArg (fun x => SV.d (D.val (Value.int .i64 x))) (shr_val (k := 24) (q := 24) rfl (by decide))) ?_
 refine sO 13 352 5 rfl <| e1 360 rfl <| keep [0, 2, 4, 5, 6, 13] rfl ?_
 refine q1 rfl (fun hc4 => ?_) (fun hc4 => ?_)
 try simp only [cs, ne_eq] at hc4
 refine r1 <| sO 14 360 1 rfl <| s0O 368 2 rfl rfl rfl rfl rfl <| e1 376 rfl <| keep [2] rfl <| W_ret <| br <| tr <| tr <| br <| tr ?_
 have hcl : cls x = 3 := (by unfold cls; rw [if_neg (by omega)]; rw [if_neg (by omega)]; rw [if_neg (by omega)]; rw [if_pos (by omega)])
 exact outN (clsS (cls x)) (π := []) (hout := []) Tryd.results73 rfl (by trivial) (by rw [hcl]; rfl) rfl rfl trivial ⟨rfl, rfl⟩
 try simp only [cs, ne_eq] at hc4
 refine W_skip <| bn <| tn ?_
 refine r0 ?_
 refine sAO 15 360 1 rfl ?_
 refine val 15 (SV.i 4) rfl rfl ?_
 refine sT 6 368 2 rfl <| e1 376 rfl <| tn ?_
 refine unr ?_
 refine r1 <| sO 7 376 1 rfl <| e1 384 rfl <| keep [0, 2, 5, 6, 7] rfl <| W_seq ?_
 refine q1 rfl (fun hc2 => ?_) (fun hc2 => ?_)
 try simp only [cs, ne_eq] at hc2
 refine W_skip <| tn <| W_seq <| W_block <| r1 ?_
 refine sIdxA 8 384 1 rfl rfl rfl rfl rfl rfl rfl (by decide) ?_
 refine sT 4 392 2 rfl <| s0O 400 3 rfl rfl rfl rfl rfl <| e1 408 rfl <| keep [0, 2, 4, 5, 6] rfl <| r1 <| sT 9 408 1 rfl <| sT 10 416 2 rfl <| sO 11 424 3 rfl ?_
 refine val 11 (SV.i 59) rfl rfl ?_
 refine sV 12 432 4 rfl (by decide) ?_
 refine val 12 (SV.i (x / 2 ^ 59)) rfl (congrArg (fun x => SV.d (D.val (Value.int .i64 x))) (shr_val (k := 59) (q := 59) rfl (by decide))) ?_
 refine sO 13 440 5 rfl <| e1 448 rfl <| keep [0, 2, 4, 5, 6, 13] rfl ?_
 refine q1 rfl (fun hc4 => ?_) (fun hc4 => ?_)
 try simp only [cs, ne_eq] at hc4
 refine r1 <| sO 14 448 1 rfl <| s0O 456 2 rfl rfl rfl rfl rfl <| e1 464 rfl <| keep [2] rfl <| W_ret <| br <| tr <| tr <| br <| tr ?_
 have hcl : cls x = 4 := (by unfold cls; rw [if_neg (by omega)]; rw [if_neg (by omega)]; rw [if_neg (by omega)]; rw [if_neg (by omega)])
 exact outN (clsS (cls x)) (π := []) (hout := []) Tryd.results73 rfl (by trivial) (by rw [hcl]; rfl) rfl rfl trivial ⟨rfl, rfl⟩
 try simp only [cs, ne_eq] at hc4
 refine W_skip <| bn <| tn ?_
 refine r0 ?_
 refine sAO 15 448 1 rfl ?_
 refine val 15 (SV.i 5) rfl rfl ?_
 refine sT 6 456 2 rfl <| e1 464 rfl <| tn ?_
 refine unr ?_
 refine r1 <| sO 7 464 1 rfl <| e1 472 rfl <| keep [0, 2, 5, 6, 7] rfl <| W_seq ?_
 refine q1 rfl (fun hc2 => ?_) (fun hc2 => ?_)
 exact absurd hc2 (by decide)
 try simp only [cs, ne_eq] at hc2
 refine W_exit <| tx <| tx <| bx <| tn <| r1 ?_
 refine sV 16 472 1 rfl (by decide) ?_
 refine sV 17 480 2 rfl (by decide) ?_
 refine s0O 488 3 rfl rfl rfl rfl rfl <| e1 496 rfl <| keep [2] rfl <| W_ret ?_
 have hcl : cls x = 4 := (by unfold cls; rw [if_neg (by omega)]; rw [if_neg (by omega)]; rw [if_neg (by omega)]; rw [if_neg (by omega)])
 exact outN (clsS (cls x)) (π := []) (hout := []) Tryd.results73 rfl (by trivial) (by rw [hcl]; rfl) rfl rfl trivial ⟨rfl, rfl⟩
 exact absurd hc2 (by decide)
 exact absurd hc2 (by decide)
 exact absurd hc2 (by decide)
 exact absurd hc2 (by decide)
 exact absurd hc2 (by decide)
theorem zput_any (L : List Int) (hL : AllBits L) (hlen : L.length ≤ 900000) (n : Int) (h : isSm n) : Spec Tryd.prog GC 65 [.ptr 0 0 0, SV.i n] [.cells 122 2 [.sl 1 0 (pack L).length, SV.i L.length], .rows 5 1 (pack L).length (u8F (pack L))] (fun r ho => r = SV.tup [] ∧ ho = [some (.cells 122 2 [.sl 2 0 (pack (zput L n)).length, SV.i (zput L n).length]), none, some (.rows 5 1 (pack (zput L n)).length (u8F (pack (zput L n))))]) := by
 have hz := zFold_bd n h.1 h.2
 refine start 25 2 Tryd.func65 rfl rfl rfl rfl ?_
 refine r1 <| sT 8 2 1 rfl ?_
 refine c1 (fold_any n h) [] [] 9 10 2 rfl rfl rfl rfl rfl rfl rfl rfl Tryd.func75 rfl rfl rfl rfl trivial rfl rfl ?_
 refine sT 7 18 3 rfl <| sT 10 26 4 rfl <| sT 11 34 5 rfl <| sT 4 42 6 rfl <| sT 5 50 7 rfl <| e1 58 rfl <| keep [0, 4] rfl <| r1 <| sT 12 58 1 rfl ?_
 refine c1 (fit_any (zFold n) hz.1) [] [] 13 66 2 rfl rfl rfl rfl rfl rfl rfl rfl Tryd.func73 rfl rfl rfl rfl trivial rfl rfl ?_
 refine sT 6 74 3 rfl <| s0O 82 4 rfl rfl rfl rfl rfl <| e1 90 rfl <| keep [0, 4, 6] rfl <| r1 <| sT 14 90 1 rfl <| sT 15 98 2 rfl <| sO 16 106 3 rfl <| sT 17 114 4 rfl <| sO 18 122 5 rfl ?_
 refine c1 (put_any L hL (by omega) (clW (cls (zFold n))) (clH (cls (zFold n))) (clW_le _) (clH_in _)) [0, 1] [0, 1, 130] 19 130 6 rfl rfl rfl rfl rfl rfl rfl rfl Tryd.func63 rfl rfl rfl rfl ⟨rfl, rfl, trivial⟩ rfl rfl ?_
 refine e1 138 rfl <| keep [0, 4, 6] rfl ?_
 refine r0 ?_
 refine sT 20 138 1 rfl <| sT 21 146 2 rfl <| sO 22 154 3 rfl <| sT 23 162 4 rfl ?_
 refine c1 (put_any (L ++ bitsOf (clW (cls (zFold n))) (clH (cls (zFold n)))) (hL.append (bitsOf_bits _ _)) (by rw [List.length_append, bitsOf_length]; have := clW_le (cls (zFold n)); omega) (clB (cls (zFold n))) (zFold n) (clB_le _) ⟨by omega, by omega⟩) [0, 130] [0, 130, 170] 24 170 5 rfl rfl rfl rfl rfl rfl rfl rfl Tryd.func63 rfl rfl rfl rfl ⟨rfl, rfl, trivial⟩ rfl rfl ?_
 refine e1 178 rfl ?_
 exact out0 (π := [0, 1, 170]) (hout := [some (.cells 122 2 [.sl 2 0 (pack (zput L n)).length, SV.i (zput L n).length]), none, some (.rows 5 1 (pack (zput L n)).length (u8F (pack (zput L n))))]) Tryd.results65 rfl rfl ⟨rfl, rfl, trivial⟩ ⟨rfl, rfl⟩
theorem bytes_any (L : List Int) : Spec Tryd.prog GC 66 [.ptr 0 0 0] [.cells 122 2 [.sl 1 0 (pack L).length, SV.i L.length], .rows 5 1 (pack L).length (u8F (pack L))] (fun r ho => r = .sl 1 0 (pack L).length ∧ ho = [some (.cells 122 2 [.sl 1 0 (pack L).length, SV.i L.length]), some (.rows 5 1 (pack L).length (u8F (pack L)))]) := by
 refine start 7 2 Tryd.func66 rfl rfl rfl rfl ?_
 refine r1 <| sT 2 2 1 rfl <| e1 10 rfl <| keep [0] rfl <| r1 <| sT 3 10 1 rfl <| sT 4 18 2 rfl <| sT 5 26 3 rfl <| sO 6 34 4 rfl <| sT 2 42 5 rfl <| e1 50 rfl <| keep [2] rfl <| W_ret ?_
 exact out1 2 (.sl 1 0 (pack L).length) (π := [0, 1]) (hout := [some (.cells 122 2 [.sl 1 0 (pack L).length, SV.i L.length]), some (.rows 5 1 (pack L).length (u8F (pack L)))]) Tryd.results66 rfl rfl rfl rfl ⟨rfl, rfl, trivial⟩ ⟨rfl, rfl⟩
end Go.Proofs.YtalhangpahffeaaDoor.Nice
namespace Go.Proofs.YtalhangpahffeaaDoor.Nice
open Go
set_option linter.unusedVariables false
set_option linter.unusedSimpArgs false
set_option maxRecDepth 100000
set_option maxHeartbeats 4000000
structure Smp where
 t : Int
 v : Int
 deriving Inhabited, DecidableEq
def smpF (l : List Smp) : Nat → Nat → D := fun i c => match c with | 0 => .val (.int .i64 (l.getD i default).t) | 1 => .val (.int .i64 (l.getD i default).v) | _ => .any
def smpV (l : List Smp) : SV := .d (.vec 2 l.length (smpF l))
def smpS (s : Smp) : SV := .agg [SV.i s.t, SV.i s.v]
structure SmpIn (l : List Smp) : Prop where
 n : l.length ≤ 9223372036854775807
 t : ∀ k, inRange (l.getD k default).t
 v : ∀ k, inRange (l.getD k default).v
structure Lst where
 t : Int
 v : Int
 st : Int
 n : Int
def lstX (a : Lst) : List SV := [SV.i a.t, SV.i a.v, SV.i a.st, SV.i a.n]
def inB (x : Int) : Prop := -36028797018963968 ≤ x ∧ x < 36028797018963968
instance (x : Int) : Decidable (inB x) := inferInstanceAs (Decidable (_ ∧ _))
def lfault (a : Lst) (s : Smp) : Int := if inB s.t ∧ inB s.v then (if 0 < a.n ∧ s.t ≤ a.t then 9 else 0) else 11
def cT (a : Lst) (s : Smp) : Int := if a.n = 0 then s.t else s.t - a.t - a.st
def cV (a : Lst) (s : Smp) : Int := if a.n = 0 then s.v else s.v - a.v
def nxt (a : Lst) (s : Smp) : Lst := ⟨s.t, s.v, if 0 < a.n then s.t - a.t else a.st, a.n + 1⟩
structure LstIn (a : Lst) : Prop where
 t : inB a.t
 v : inB a.v
 st : -72057594037927936 ≤ a.st ∧ a.st ≤ 72057594037927936
 n : 0 ≤ a.n ∧ a.n ≤ 1000
def lstN (l : List Smp) : Nat → Lst
 | 0 => ⟨0, 0, 0, 0⟩
 | k + 1 => nxt (lstN l k) (l.getD k default)
def faultTo (l : List Smp) : Nat → Int
 | 0 => 0
 | k + 1 => if faultTo l k = 0 then lfault (lstN l k) (l.getD k default) else faultTo l k
def sfault (l : List Smp) : Int := if 120 < l.length then 1 else faultTo l l.length
def encL (l : List Smp) : Nat → List Int
 | 0 => [] ++ bitsOf 8 l.length
 | k + 1 => zput (zput (encL l k) (cT (lstN l k) (l.getD k default))) (cV (lstN l k) (l.getD k default))
def encB (l : List Smp) : List Int := pack (encL l l.length)
theorem lstN_n (l : List Smp) : ∀ k, (lstN l k).n = k
 | 0 => rfl
 | k + 1 => by show (lstN l k).n + 1 = _; rw [lstN_n l k]; omega
theorem lfault_zero {a : Lst} {s : Smp} (h : lfault a s = 0) : inB s.t ∧ inB s.v ∧ (0 < a.n → a.t < s.t) := by
 unfold lfault at h
 split at h
 · next hb =>
   split at h
   · cases h
   · next hn => exact ⟨hb.1, hb.2, fun h0 => by have : ¬ s.t ≤ a.t := fun e => hn ⟨h0, e⟩
                                                omega⟩
 · cases h
theorem faultTo_down {l : List Smp} {k : Nat} (h : faultTo l (k + 1) = 0) : faultTo l k = 0 ∧ lfault (lstN l k) (l.getD k default) = 0 := by
 unfold faultTo at h
 split at h
 · next h0 => exact ⟨h0, h⟩
 · next h0 => exact absurd h h0
theorem faultTo_le {l : List Smp} {k n : Nat} (hk : k ≤ n) (h : faultTo l n = 0) : faultTo l k = 0 := by
 induction n with
 | zero => obtain rfl : k = 0 := by omega
           exact h
 | succ n ih =>
   rcases Nat.lt_or_ge n k with hlt | hge
   · obtain rfl : k = n + 1 := by omega
     exact h
   · exact ih hge (faultTo_down h).1
theorem faultTo_stay {l : List Smp} {k n : Nat} (hk : k ≤ n) (h : faultTo l k ≠ 0) : faultTo l n = faultTo l k := by
 induction n with
 | zero => obtain rfl : k = 0 := by omega
           rfl
 | succ n ih =>
   rcases Nat.lt_or_ge n k with hlt | hge
   · obtain rfl : k = n + 1 := by omega
     rfl
   · have := ih hge
     show (if faultTo l n = 0 then _ else faultTo l n) = _
     rw [if_neg (by rw [this]; exact h), this]
theorem faultTo_at {l : List Smp} {k n : Nat} (hk : k < n) (h0 : faultTo l k = 0) (h : lfault (lstN l k) (l.getD k default) ≠ 0) : faultTo l n = lfault (lstN l k) (l.getD k default) := by
 have e : faultTo l (k + 1) = lfault (lstN l k) (l.getD k default) := by show (if _ then _ else _) = _; rw [if_pos h0]
 rw [faultTo_stay (k := k + 1) hk (by rw [e]; exact h), e]
theorem faultTo_step {l : List Smp} {k : Nat} (h0 : faultTo l k = 0) (h : lfault (lstN l k) (l.getD k default) = 0) : faultTo l (k + 1) = 0 := by show (if _ then _ else _) = _; rw [if_pos h0, h]
theorem smp_at {l : List Smp} {k n : Nat} (h : faultTo l n = 0) (hk : k < n) : inB (l.getD k default).t ∧ inB (l.getD k default).v ∧ (0 < k → (lstN l k).t < (l.getD k default).t) := by
 have := lfault_zero (faultTo_down (faultTo_le (show k + 1 ≤ n from hk) h)).2
 rw [lstN_n] at this
 exact ⟨this.1, this.2.1, fun hk => this.2.2 (by omega)⟩
theorem lstN_t (l : List Smp) {k : Nat} (hk : 0 < k) : (lstN l k).t = (l.getD (k - 1) default).t ∧ (lstN l k).v = (l.getD (k - 1) default).v := by
 obtain ⟨j, rfl⟩ : ∃ j, k = j + 1 := ⟨k - 1, by omega⟩
 exact ⟨rfl, rfl⟩
theorem lstN_st (l : List Smp) (k : Nat) : (lstN l k).st = if 2 ≤ k then (l.getD (k - 1) default).t - (l.getD (k - 2) default).t else 0 := by
 match k with
 | 0 => rfl
 | 1 => rfl
 | k + 2 =>
   rw [if_pos (by omega)]
   show (if 0 < (lstN l (k + 1)).n then _ else _) = _
   rw [if_pos (by rw [lstN_n]; omega)]
   rfl
theorem lst_in {l : List Smp} {k : Nat} (h : faultTo l k = 0) (hk : k ≤ 1000) : LstIn (lstN l k) := by
 refine ⟨?_, ?_, ?_, by rw [lstN_n]; omega⟩
 · rcases Nat.eq_zero_or_pos k with rfl | h0
   · show inB 0; exact ⟨by decide, by decide⟩
   · rw [(lstN_t l h0).1]; exact (smp_at h (show k - 1 < k by omega)).1
 · rcases Nat.eq_zero_or_pos k with rfl | h0
   · show inB 0; exact ⟨by decide, by decide⟩
   · rw [(lstN_t l h0).2]; exact (smp_at h (show k - 1 < k by omega)).2.1
 · rw [lstN_st]
   split
   · next h2 =>
     obtain ⟨a1, a2⟩ := (smp_at h (show k - 1 < k by omega)).1
     obtain ⟨b1, b2⟩ := (smp_at h (show k - 2 < k by omega)).1
     omega
   · omega
theorem encL_bits (l : List Smp) : ∀ k, AllBits (encL l k)
 | 0 => allBits_nil.append (bitsOf_bits _ _)
 | k + 1 => zput_bits (zput_bits (encL_bits l k) _) _
theorem encL_len (l : List Smp) : ∀ k, (encL l k).length ≤ 8 + 240 * k
 | 0 => by show ([] ++ bitsOf 8 _).length ≤ _; rw [List.nil_append, bitsOf_length]; omega
 | k + 1 => by
   have h1 := zput_len (zput (encL l k) (cT (lstN l k) (l.getD k default))) (cV (lstN l k) (l.getD k default))
   have h2 := zput_len (encL l k) (cT (lstN l k) (l.getD k default))
   have h3 := encL_len l k
   show (zput (zput _ _) _).length ≤ _
   omega
theorem c_small {a : Lst} {s : Smp} (h : LstIn a) (ht : inB s.t) (hv : inB s.v) : isSm (cT a s) ∧ isSm (cV a s) := by
 obtain ⟨⟨h1, h2⟩, ⟨h3, h4⟩, ⟨h5, h6⟩, _⟩ := h
 obtain ⟨g1, g2⟩ := ht
 obtain ⟨g3, g4⟩ := hv
 unfold cT cV isSm
 constructor <;> split <;> omega
theorem fault_any (a : Lst) (s : Smp) : Spec Tryd.prog GC 60 [.ptr 0 0 0, smpS s] [.cells 115 4 (lstX a)] (fun r ho => r = SV.i (lfault a s) ∧ ho = [some (.cells 115 4 (lstX a))]) := by
 refine start 40 1 Tryd.func60 rfl rfl rfl rfl ?_
 refine r1 <| sT 3 1 1 rfl <| sT 4 9 2 rfl <| e1 17 rfl <| keep [0, 3] rfl <| W_seq <| W_block <| r1 <| sT 6 17 1 rfl <| sO 7 25 2 rfl <| sO 8 33 3 rfl <| sT 9 41 4 rfl ?_
 refine ask 9 rfl (fun hg1_9 => ?_) (fun hg1_9 => ?_)
 try simp only [cs, ne_eq] at hg1_9
 refine gF 3 false 9 10 5 rfl rfl <| gF 3 false 9 11 6 rfl rfl <| gF 3 false 9 12 7 rfl rfl <| sT 13 73 8 rfl <| sT 14 81 9 rfl <| gF 8 false 14 15 10 rfl rfl <| gF 8 false 14 16 11 rfl rfl <| gF 8 false 14 17 12 rfl rfl <| sT 18 113 13 rfl <| sT 19 121 14 rfl <| gF 13 false 19 20 15 rfl rfl <| gF 13 false 19 21 16 rfl rfl <| gF 13 false 19 22 17 rfl rfl <| sT 23 153 18 rfl <| sT 5 161 19 rfl <| e1 169 rfl ?_
 refine keep [0, 3, 5] rfl ?_
 refine q1 rfl (fun hc1 => ?_) (fun hc1 => ?_)
 try simp only [cs, ne_eq] at hc1
 refine r1 <| sT 4 169 1 rfl <| e1 177 rfl <| keep [4] rfl <| W_ret <| br <| tr ?_
 exact out1 4 (SV.i (lfault a s)) (π := [0]) (hout := [some (.cells 115 4 (lstX a))]) Tryd.results60 rfl (by unfold lfault inB; rw [if_neg (by rintro ⟨⟨h1, h2⟩, h3, h4⟩; omega)]; rfl) rfl rfl ⟨rfl, trivial⟩ ⟨rfl, rfl⟩
 exact absurd hc1 (by decide)
 try simp only [cs, ne_eq] at hg1_9
 refine gT 3 false 9 5 rfl rfl <| sT 10 49 5 rfl <| gT 3 false 9 6 rfl rfl <| sO 11 57 6 rfl <| gT 3 false 9 7 rfl rfl <| sO 12 65 7 rfl <| sT 13 73 8 rfl <| sT 14 81 9 rfl ?_
 refine ask 14 rfl (fun hg1_14 => ?_) (fun hg1_14 => ?_)
 try simp only [cs, ne_eq] at hg1_14
 refine gF 8 false 14 15 10 rfl rfl <| gF 8 false 14 16 11 rfl rfl <| gF 8 false 14 17 12 rfl rfl <| sT 18 113 13 rfl <| sT 19 121 14 rfl <| gF 13 false 19 20 15 rfl rfl <| gF 13 false 19 21 16 rfl rfl <| gF 13 false 19 22 17 rfl rfl <| sT 23 153 18 rfl <| sT 5 161 19 rfl <| e1 169 rfl <| keep [0, 3, 5] rfl ?_
 refine q1 rfl (fun hc1 => ?_) (fun hc1 => ?_)
 try simp only [cs, ne_eq] at hc1
 refine r1 <| sT 4 169 1 rfl <| e1 177 rfl <| keep [4] rfl <| W_ret <| br <| tr ?_
 exact out1 4 (SV.i (lfault a s)) (π := [0]) (hout := [some (.cells 115 4 (lstX a))]) Tryd.results60 rfl (by unfold lfault inB; rw [if_neg (by rintro ⟨⟨h1, h2⟩, h3, h4⟩; omega)]; rfl) rfl rfl ⟨rfl, trivial⟩ ⟨rfl, rfl⟩
 exact absurd hc1 (by decide)
 try simp only [cs, ne_eq] at hg1_14
 refine gT 8 false 14 10 rfl rfl <| sT 15 89 10 rfl <| gT 8 false 14 11 rfl rfl <| sO 16 97 11 rfl <| gT 8 false 14 12 rfl rfl <| sO 17 105 12 rfl <| sT 18 113 13 rfl <| sT 19 121 14 rfl ?_
 refine ask 19 rfl (fun hg1_19 => ?_) (fun hg1_19 => ?_)
 try simp only [cs, ne_eq] at hg1_19
 refine gF 13 false 19 20 15 rfl rfl <| gF 13 false 19 21 16 rfl rfl <| gF 13 false 19 22 17 rfl rfl <| sT 23 153 18 rfl <| sT 5 161 19 rfl <| e1 169 rfl <| keep [0, 3, 5] rfl ?_
 refine q1 rfl (fun hc1 => ?_) (fun hc1 => ?_)
 try simp only [cs, ne_eq] at hc1
 refine r1 <| sT 4 169 1 rfl <| e1 177 rfl <| keep [4] rfl <| W_ret <| br <| tr ?_
 exact out1 4 (SV.i (lfault a s)) (π := [0]) (hout := [some (.cells 115 4 (lstX a))]) Tryd.results60 rfl (by unfold lfault inB; rw [if_neg (by rintro ⟨⟨h1, h2⟩, h3, h4⟩; omega)]; rfl) rfl rfl ⟨rfl, trivial⟩ ⟨rfl, rfl⟩
 exact absurd hc1 (by decide)
 try simp only [cs, ne_eq] at hg1_19
 refine gT 13 false 19 15 rfl rfl <| sT 20 129 15 rfl <| gT 13 false 19 16 rfl rfl <| sO 21 137 16 rfl <| gT 13 false 19 17 rfl rfl <| sO 22 145 17 rfl <| sT 23 153 18 rfl <| sT 5 161 19 rfl <| e1 169 rfl <| keep [0, 3, 5] rfl ?_
 refine q1 rfl (fun hc1 => ?_) (fun hc1 => ?_)
 try simp only [cs, ne_eq] at hc1
 refine r1 <| sT 4 169 1 rfl <| e1 177 rfl <| keep [4] rfl <| W_ret <| br <| tr ?_
 exact out1 4 (SV.i (lfault a s)) (π := [0]) (hout := [some (.cells 115 4 (lstX a))]) Tryd.results60 rfl (by unfold lfault inB; rw [if_neg (by rintro ⟨⟨h1, h2⟩, h3, h4⟩; omega)]; rfl) rfl rfl ⟨rfl, trivial⟩ ⟨rfl, rfl⟩
 try simp only [cs, ne_eq] at hc1
 refine rd1 rfl ?_
 refine dT 25 169 1 rfl <| dT 26 177 2 rfl <| dT 27 185 3 rfl <| dO 28 193 4 rfl <| dO 29 201 5 rfl <| dT 30 209 6 rfl ?_
 refine ask 30 rfl (fun hg3_30 => ?_) (fun hg3_30 => ?_)
 try simp only [cs, ne_eq] at hg3_30
 refine gT 5 true 30 7 rfl rfl <| dT 31 217 7 rfl <| gT 5 true 30 8 rfl rfl <| dO 32 225 8 rfl <| gT 5 true 30 9 rfl rfl <| dT 33 233 9 rfl <| gT 5 true 30 10 rfl rfl <| dT 34 241 10 rfl <| gT 5 true 30 11 rfl rfl <| dT 35 249 11 rfl <| gT 5 true 30 12 rfl rfl <| dT 36 257 12 rfl <| gT 5 true 30 13 rfl rfl <| dO 37 265 13 rfl <| gT 5 true 30 14 rfl rfl <| dO 38 273 14 rfl ?_
 refine dT 39 281 15 rfl <| dT 24 289 16 rfl <| de1 297 rfl (by kernel_rfl) <| keep [24] rfl ?_
 refine q1 rfl (fun hc3 => ?_) (fun hc3 => ?_)
 try simp only [cs, ne_eq] at hc3
 refine r1 <| sT 4 297 1 rfl <| e1 305 rfl <| keep [4] rfl <| W_ret <| br <| tr ?_
 exact out1 4 (SV.i (lfault a s)) (π := [0]) (hout := [some (.cells 115 4 (lstX a))]) Tryd.results60 rfl (by unfold lfault inB; rw [if_pos ⟨⟨by omega, by omega⟩, by omega, by omega⟩, if_pos ⟨by omega, by omega⟩]; rfl) rfl rfl ⟨rfl, trivial⟩ ⟨rfl, rfl⟩
 try simp only [cs, ne_eq] at hc3
 refine W_skip <| bn <| tn <| r1 <| sT 4 297 1 rfl <| e1 305 rfl <| keep [4] rfl <| W_ret ?_
 exact out1 4 (SV.i (lfault a s)) (π := [0]) (hout := [some (.cells 115 4 (lstX a))]) Tryd.results60 rfl (by unfold lfault inB; rw [if_pos ⟨⟨by omega, by omega⟩, by omega, by omega⟩, if_neg (by rintro ⟨h1, h2⟩; omega)]; rfl) rfl rfl ⟨rfl, trivial⟩ ⟨rfl, rfl⟩
 try simp only [cs, ne_eq] at hg3_30
 refine gF 5 true 30 31 7 rfl rfl <| gF 5 true 30 32 8 rfl rfl <| gF 5 true 30 33 9 rfl rfl <| gF 5 true 30 34 10 rfl rfl <| gF 5 true 30 35 11 rfl rfl <| gF 5 true 30 36 12 rfl rfl <| gF 5 true 30 37 13 rfl rfl <| gF 5 true 30 38 14 rfl rfl <| dT 39 281 15 rfl <| dT 24 289 16 rfl <| de1 297 rfl (by kernel_rfl) <| keep [24] rfl ?_
 refine q1 rfl (fun hc3 => ?_) (fun hc3 => ?_)
 exact absurd hc3 (by decide)
 try simp only [cs, ne_eq] at hc3
 refine W_skip <| bn <| tn <| r1 <| sT 4 297 1 rfl <| e1 305 rfl <| keep [4] rfl <| W_ret ?_
 exact out1 4 (SV.i (lfault a s)) (π := [0]) (hout := [some (.cells 115 4 (lstX a))]) Tryd.results60 rfl (by unfold lfault inB; rw [if_pos ⟨⟨by omega, by omega⟩, by omega, by omega⟩, if_neg (by rintro ⟨h1, h2⟩; omega)]; rfl) rfl rfl ⟨rfl, trivial⟩ ⟨rfl, rfl⟩
theorem codes_any (a : Lst) (s : Smp) (ha : LstIn a) (ht : inB s.t) (hv : inB s.v) : Spec Tryd.prog GC 64 [.ptr 0 0 0, smpS s] [.cells 115 4 (lstX a)] (fun r ho => r = SV.tup [SV.i (cT a s), SV.i (cV a s)] ∧ ho = [some (.cells 115 4 (lstX a))]) := by
 obtain ⟨⟨h1, h2⟩, ⟨h3, h4⟩, ⟨h5, h6⟩, h7, h8⟩ := ha
 obtain ⟨g1, g2⟩ := ht
 obtain ⟨g3, g4⟩ := hv
 refine start 36 1 Tryd.func64 rfl rfl rfl rfl ?_
 refine r1 <| sT 3 1 1 rfl <| sT 4 9 2 rfl <| sT 5 17 3 rfl <| e1 25 rfl <| keep [0, 3] rfl <| W_seq <| r1 <| sT 6 25 1 rfl <| sT 7 33 2 rfl <| sT 8 41 3 rfl <| sO 9 49 4 rfl <| sO 10 57 5 rfl <| e1 65 rfl <| keep [0, 3, 10] rfl ?_
 refine q1 rfl (fun hc1 => ?_) (fun hc1 => ?_)
 try simp only [cs, ne_eq] at hc1
 refine rd1 rfl ?_
 refine dT 11 65 1 rfl <| dO 12 73 2 rfl <| dT 13 81 3 rfl <| dO 14 89 4 rfl <| dT 4 97 5 rfl <| dT 5 105 6 rfl <| de1 113 rfl (by kernel_rfl) <| keep [4, 5] rfl <| W_ret <| tr ?_
 exact out2 4 5 (SV.i (cT a s)) (SV.i (cV a s)) (π := [0]) (hout := [some (.cells 115 4 (lstX a))]) Tryd.results64 rfl rfl (by unfold cT; rw [if_pos (by omega)]; rfl) (by unfold cV; rw [if_pos (by omega)]; rfl) rfl rfl ⟨rfl, trivial⟩ ⟨rfl, rfl⟩
 try simp only [cs, ne_eq] at hc1
 refine W_skip <| tn ?_
 refine rd1 rfl ?_
 refine dT 15 65 1 rfl <| dO 16 73 2 rfl <| dT 17 81 3 rfl <| dT 18 89 4 rfl <| dT 19 97 5 rfl <| dT 20 105 6 rfl <| dO 21 113 7 rfl <| dAO 22 121 8 rfl <| dT 23 129 9 rfl <| dT 24 137 10 rfl <| dT 25 145 11 rfl <| dO 26 153 12 rfl <| dAO 27 161 13 rfl <| dT 28 169 14 rfl <| dO 29 177 15 rfl <| dT 30 185 16 rfl ?_
 refine dT 31 193 17 rfl <| dT 32 201 18 rfl <| dT 33 209 19 rfl <| dO 34 217 20 rfl <| dAO 35 225 21 rfl <| dT 4 233 22 rfl <| dT 5 241 23 rfl <| de1 249 rfl (by kernel_rfl) <| keep [4, 5] rfl <| W_ret ?_
 exact out2 4 5 (SV.i (cT a s)) (SV.i (cV a s)) (π := [0]) (hout := [some (.cells 115 4 (lstX a))]) Tryd.results64 rfl rfl (by unfold cT; rw [if_neg (by omega)]; rfl) (by unfold cV; rw [if_neg (by omega)]; rfl) rfl rfl ⟨rfl, trivial⟩ ⟨rfl, rfl⟩
theorem next_any (a : Lst) (s : Smp) (ha : LstIn a) (ht : inB s.t) (hv : inB s.v) : Spec Tryd.prog GC 61 [.ptr 0 0 0, smpS s] [.cells 115 4 (lstX a)] (fun r ho => r = SV.tup [] ∧ ho = [some (.cells 115 4 (lstX (nxt a s)))]) := by
 obtain ⟨⟨h1, h2⟩, ⟨h3, h4⟩, ⟨h5, h6⟩, h7, h8⟩ := ha
 obtain ⟨g1, g2⟩ := ht
 obtain ⟨g3, g4⟩ := hv
 refine start 31 1 Tryd.func61 rfl rfl rfl rfl ?_
 refine r1 <| sT 3 1 1 rfl <| e1 9 rfl <| keep [0, 3] rfl <| W_seq <| r1 <| sT 4 9 1 rfl <| sT 5 17 2 rfl <| sT 6 25 3 rfl <| sO 7 33 4 rfl <| sO 8 41 5 rfl <| e1 49 rfl <| keep [0, 3, 8] rfl ?_
 refine q1 rfl (fun hc1 => ?_) (fun hc1 => ?_)
 try simp only [cs, ne_eq] at hc1
 refine rd0 rfl ?_
 refine dT 9 49 1 rfl <| dT 10 57 2 rfl <| dO 11 65 3 rfl <| dT 12 73 4 rfl <| dT 13 81 5 rfl <| dT 14 89 6 rfl <| dT 15 97 7 rfl <| dO 16 105 8 rfl <| dAO 17 113 9 rfl <| dT 18 121 10 rfl <| dT 19 129 11 rfl ?_
 refine d0 137 12 rfl rfl rfl rfl rfl (by first | trivial | omega) ?_
 refine de1 145 rfl (by kernel_rfl) <| tn <| r1 <| sT 20 145 1 rfl <| sO 21 153 2 rfl <| sT 22 161 3 rfl <| sT 23 169 4 rfl <| s0O 177 5 rfl rfl rfl rfl rfl <| e1 185 rfl <| keep [0] rfl ?_
 refine r0 ?_
 refine sT 24 185 1 rfl <| sT 25 193 2 rfl <| sT 26 201 3 rfl <| sO 27 209 4 rfl <| sAO 28 217 5 rfl <| sT 29 225 6 rfl <| sT 30 233 7 rfl <| s0O 241 8 rfl rfl rfl rfl rfl <| e1 249 rfl ?_
 exact out0 (π := [0]) (hout := [some (.cells 115 4 (lstX (nxt a s)))]) Tryd.results61 rfl rfl ⟨(by show some (Blk.cells _ _ _) = some (Blk.cells _ _ _); unfold nxt lstX; rw [if_pos (by omega)]; rfl), trivial⟩ ⟨rfl, rfl⟩
 try simp only [cs, ne_eq] at hc1
 refine W_skip <| tn <| r1 <| sT 20 49 1 rfl <| sO 21 57 2 rfl <| sT 22 65 3 rfl <| sT 23 73 4 rfl <| s0O 81 5 rfl rfl rfl rfl rfl <| e1 89 rfl <| keep [0] rfl ?_
 refine r0 ?_
 refine sT 24 89 1 rfl <| sT 25 97 2 rfl <| sT 26 105 3 rfl <| sO 27 113 4 rfl <| sAO 28 121 5 rfl <| sT 29 129 6 rfl <| sT 30 137 7 rfl <| s0O 145 8 rfl rfl rfl rfl rfl <| e1 153 rfl ?_
 exact out0 (π := [0]) (hout := [some (.cells 115 4 (lstX (nxt a s)))]) Tryd.results61 rfl rfl ⟨(by show some (Blk.cells _ _ _) = some (Blk.cells _ _ _); unfold nxt lstX; rw [if_neg (by omega)]; rfl), trivial⟩ ⟨rfl, rfl⟩
theorem encode_ok (l : List Smp) (hin : SmpIn l) (hz : sfault l = 0) : Spec Tryd.prog GC 40 [smpV l] [] (fun r ho => r = SV.tup [.sl 0 0 (encB l).length, SV.i 0] ∧ ho = [some (.rows 5 1 (encB l).length (u8F (encB l)))]) := by
 refine start 41 0 Tryd.func40 rfl rfl rfl rfl ?_
 refine r1 <| sT 2 0 1 rfl <| sT 3 8 2 rfl <| e1 16 rfl <| keep [0] rfl <| W_seq <| r1 <| sT 11 16 1 rfl <| sO 12 24 2 rfl <| sO 13 32 3 rfl <| e1 40 rfl <| keep [0, 13] rfl ?_
 refine q1 rfl (fun hc1 => ?_) (fun hc1 => ?_)
 exfalso; unfold sfault at hz; rw [if_pos (by simp at hc1; omega)] at hz; cases hz
 try simp only [cs, ne_eq] at hc1
 refine W_skip <| tn <| r1 <| sT 4 40 1 rfl <| e1 48 rfl <| keep [0, 4] rfl <| r1 <| sT 5 48 1 rfl <| e1 56 rfl <| keep [0, 4, 5] rfl ?_
 refine cghostly 40 0 5 1 (u8F (pack [])) rfl rfl rfl ?_
 refine r1 <| sT 14 64 1 rfl <| sO 15 72 2 rfl ?_
 refine c1 (put_any [] allBits_nil (by decide) 8 l.length (by decide) ⟨by omega, by omega⟩) [40, 56] [40, 56, 80] 16 80 3 rfl rfl rfl rfl rfl rfl rfl rfl Tryd.func63 rfl rfl rfl rfl ⟨rfl, rfl, trivial⟩ rfl rfl ?_
 refine e1 88 rfl <| keep [0, 4, 5] rfl <| W_seq <| r1 <| sT 17 88 1 rfl <| sO 18 96 2 rfl <| sT 19 104 3 rfl <| e1 112 rfl <| keep [4, 5, 17, 18, 19] rfl <| W_block ?_
 have hl := hin.n
 have hl2 : l.length ≤ 120 := (by omega)
 refine loop (α := Nat) 3 (fun k => [(4, .ptr 0 0 0), (5, .ptr 1 0 0), (17, smpV l), (18, SV.i l.length), (19, SV.i (k))]) (fun k => [some (.cells 122 2 [.sl 2 0 (pack (encL l (k))).length, SV.i (encL l (k)).length]), some (.cells 115 4 (lstX (lstN l (k)))), some (.rows 5 1 (pack (encL l (k))).length (u8F (pack (encL l (k)))))]) (fun k => (k) ≤ l.length ∧ faultTo l (k) = 0) (fun k => l.length - (k)) (((0) : Nat)) [40, 48, 80] (fun _ => rfl) (show (0) ≤ l.length ∧ faultTo l (0) = 0 from ⟨Nat.zero_le _, rfl⟩) rfl ⟨rfl, rfl, rfl, rfl, rfl, trivial⟩ ⟨rfl, rfl, rfl, trivial⟩ (fun k hx => ?_)
 show W _ _ _ ⟨tOf [(4, .ptr 0 0 0), (5, .ptr 1 0 0), (17, smpV l), (18, SV.i l.length), (19, SV.i k)], hOf [some (.cells 122 2 [.sl 2 0 (pack (encL l k)).length, SV.i (encL l k).length]), some (.cells 115 4 (lstX (lstN l k))), some (.rows 5 1 (pack (encL l k)).length (u8F (pack (encL l k))))], 3⟩
 have hx : k ≤ l.length ∧ faultTo l k = 0 := hx
 obtain ⟨hk, hf⟩ := hx
 have ha := lst_in hf (by omega)
 have hE := encL_bits l k
 have hEl := encL_len l k
 refine r1 <| sO 20 3 1 rfl <| e1 11 rfl <| keep [4, 5, 17, 18, 19, 20] rfl <| W_seq ?_
 refine q1 rfl (fun hc7 => ?_) (fun hc7 => ?_)
 try simp only [cs, ne_eq] at hc7
 refine W_skip <| tn <| W_seq <| W_block <| r1 <| sO 21 11 1 rfl <| sO 22 19 2 rfl ?_
 refine val 22 (smpS (l.getD k default)) rfl (by first | rfl | (simp only [Nat.zero_add, Int.toNat_natCast]; rfl)) ?_
 refine sT 7 27 3 rfl <| s0O 35 4 rfl rfl rfl rfl rfl <| e1 43 rfl <| keep [4, 5, 7, 17, 18, 19] rfl <| W_seq <| r1 <| sO 23 43 1 rfl ?_
 refine c1 (fault_any (lstN l k) (l.getD k default)) [1] [1] 24 51 2 rfl rfl rfl rfl rfl rfl rfl rfl Tryd.func60 rfl rfl rfl rfl ⟨rfl, trivial⟩ rfl rfl ?_
 refine sT 8 59 3 rfl <| e1 67 rfl <| keep [4, 5, 7, 8, 17, 18, 19] rfl <| r1 <| sT 25 67 1 rfl <| sO 26 75 2 rfl <| e1 83 rfl <| keep [4, 5, 7, 8, 17, 18, 19, 26] rfl ?_
 refine q1 rfl (fun hc10 => ?_) (fun hc10 => ?_)
 exfalso; unfold sfault at hz; rw [if_neg (by omega)] at hz; have := (faultTo_down (faultTo_le (show k + 1 ≤ l.length by omega) hz)).2; simp at hc10; exact hc10 this
 try simp only [cs, ne_eq] at hc10
 have hf1 : lfault (lstN l k) (l.getD k default) = 0 := (by first | exact hc10 | (simp at hc10; exact hc10))
 have hs := lfault_zero hf1
 have hc := c_small ha hs.1 hs.2.1
 refine W_skip <| tn <| r1 <| sO 29 83 1 rfl ?_
 refine c1 (codes_any (lstN l k) (l.getD k default) ha hs.1 hs.2.1) [1] [1] 30 91 2 rfl rfl rfl rfl rfl rfl rfl rfl Tryd.func64 rfl rfl rfl rfl ⟨rfl, trivial⟩ rfl rfl ?_
 refine sT 28 99 3 rfl <| sT 31 107 4 rfl <| sT 32 115 5 rfl <| sT 9 123 6 rfl <| sT 10 131 7 rfl <| e1 139 rfl <| keep [4, 5, 7, 9, 10, 17, 18, 19] rfl <| r1 <| sT 33 139 1 rfl ?_
 refine c1 (zput_any (encL l k) hE (by omega) (cT (lstN l k) (l.getD k default)) hc.1) [0, 2] [0, 2, 147] 34 147 2 rfl rfl rfl rfl rfl rfl rfl rfl Tryd.func65 rfl rfl rfl rfl ⟨rfl, rfl, trivial⟩ rfl rfl ?_
 refine e1 155 rfl <| keep [4, 5, 7, 10, 17, 18, 19] rfl <| r1 <| sT 35 155 1 rfl ?_
 refine c1 (zput_any (zput (encL l k) (cT (lstN l k) (l.getD k default))) (zput_bits hE _) (by have := zput_len (encL l k) (cT (lstN l k) (l.getD k default)); omega) (cV (lstN l k) (l.getD k default)) hc.2) [0, 147] [0, 147, 163] 36 163 2 rfl rfl rfl rfl rfl rfl rfl rfl Tryd.func65 rfl rfl rfl rfl ⟨rfl, rfl, trivial⟩ rfl rfl ?_
 refine e1 171 rfl <| keep [4, 5, 7, 17, 18, 19] rfl ?_
 refine r0 ?_
 refine sO 37 171 1 rfl ?_
 refine c1 (next_any (lstN l k) (l.getD k default) ha hs.1 hs.2.1) [1] [1] 38 179 2 rfl rfl rfl rfl rfl rfl rfl rfl Tryd.func61 rfl rfl rfl rfl ⟨rfl, trivial⟩ rfl rfl ?_
 refine e1 187 rfl <| bn <| tn ?_
 refine r0 ?_
 refine sAO 39 187 1 rfl <| sT 19 195 2 rfl <| e1 203 rfl <| tn ?_
 exact again ((k + 1 : Nat)) [0, 1, 163] (show (k + 1) ≤ l.length ∧ faultTo l (k + 1) = 0 from ⟨by omega, faultTo_step hf hf1⟩) (show l.length - (k + 1) < l.length - k from (by omega)) rfl ⟨rfl, rfl, rfl, rfl, rfl, trivial⟩ ⟨rfl, rfl, rfl, trivial⟩
 try simp only [cs, ne_eq] at hc7
 refine W_exit <| tx <| tx <| bx <| tn <| r1 ?_
 refine c1 (bytes_any (encL l k)) [0, 2] [0, 2] 40 11 1 rfl rfl rfl rfl rfl rfl rfl rfl Tryd.func66 rfl rfl rfl rfl ⟨rfl, rfl, trivial⟩ rfl rfl ?_
 refine sT 2 19 2 rfl <| sT 3 27 3 rfl <| e1 35 rfl <| keep [2, 3] rfl <| W_ret ?_
 obtain rfl : k = l.length := (by omega)
 exact out2 2 3 (.sl 0 0 (encB l).length) (SV.i 0) (π := [2]) (hout := [some (.rows 5 1 (encB l).length (u8F (encB l)))]) Tryd.results40 rfl rfl rfl rfl rfl rfl ⟨rfl, trivial⟩ ⟨rfl, rfl⟩
theorem encode_bad (l : List Smp) (hin : SmpIn l) (hz : sfault l ≠ 0) : Spec Tryd.prog GC 40 [smpV l] [] (fun r ho => r = SV.tup [.d .nils, SV.i (sfault l)] ∧ ho = []) := by
 refine start 41 0 Tryd.func40 rfl rfl rfl rfl ?_
 refine r1 <| sT 2 0 1 rfl <| sT 3 8 2 rfl <| e1 16 rfl <| keep [0] rfl <| W_seq <| r1 <| sT 11 16 1 rfl <| sO 12 24 2 rfl <| sO 13 32 3 rfl <| e1 40 rfl <| keep [0, 13] rfl ?_
 refine q1 rfl (fun hc1 => ?_) (fun hc1 => ?_)
 try simp only [cs, ne_eq] at hc1
 refine r1 <| sT 2 40 1 rfl <| sT 3 48 2 rfl <| e1 56 rfl <| keep [2, 3] rfl <| W_ret <| tr ?_
 exact out2 2 3 (.d .nils) (SV.i (sfault l)) (π := []) (hout := []) Tryd.results40 rfl rfl rfl (by unfold sfault; rw [if_pos (by omega)]; rfl) rfl rfl trivial ⟨rfl, rfl⟩
 try simp only [cs, ne_eq] at hc1
 refine W_skip <| tn <| r1 <| sT 4 40 1 rfl <| e1 48 rfl <| keep [0, 4] rfl <| r1 <| sT 5 48 1 rfl <| e1 56 rfl <| keep [0, 4, 5] rfl ?_
 refine cghostly 40 0 5 1 (u8F (pack [])) rfl rfl rfl ?_
 refine r1 <| sT 14 64 1 rfl <| sO 15 72 2 rfl ?_
 refine c1 (put_any [] allBits_nil (by decide) 8 l.length (by decide) ⟨by omega, by omega⟩) [40, 56] [40, 56, 80] 16 80 3 rfl rfl rfl rfl rfl rfl rfl rfl Tryd.func63 rfl rfl rfl rfl ⟨rfl, rfl, trivial⟩ rfl rfl ?_
 refine e1 88 rfl <| keep [0, 4, 5] rfl <| W_seq <| r1 <| sT 17 88 1 rfl <| sO 18 96 2 rfl <| sT 19 104 3 rfl <| e1 112 rfl <| keep [4, 5, 17, 18, 19] rfl <| W_block ?_
 have hl := hin.n
 have hl2 : l.length ≤ 120 := (by omega)
 refine loop (α := Nat) 3 (fun k => [(4, .ptr 0 0 0), (5, .ptr 1 0 0), (17, smpV l), (18, SV.i l.length), (19, SV.i (k))]) (fun k => [some (.cells 122 2 [.sl 2 0 (pack (encL l (k))).length, SV.i (encL l (k)).length]), some (.cells 115 4 (lstX (lstN l (k)))), some (.rows 5 1 (pack (encL l (k))).length (u8F (pack (encL l (k)))))]) (fun k => (k) ≤ l.length ∧ faultTo l (k) = 0) (fun k => l.length - (k)) (((0) : Nat)) [40, 48, 80] (fun _ => rfl) (show (0) ≤ l.length ∧ faultTo l (0) = 0 from ⟨Nat.zero_le _, rfl⟩) rfl ⟨rfl, rfl, rfl, rfl, rfl, trivial⟩ ⟨rfl, rfl, rfl, trivial⟩ (fun k hx => ?_)
 show W _ _ _ ⟨tOf [(4, .ptr 0 0 0), (5, .ptr 1 0 0), (17, smpV l), (18, SV.i l.length), (19, SV.i k)], hOf [some (.cells 122 2 [.sl 2 0 (pack (encL l k)).length, SV.i (encL l k).length]), some (.cells 115 4 (lstX (lstN l k))), some (.rows 5 1 (pack (encL l k)).length (u8F (pack (encL l k))))], 3⟩
 have hx : k ≤ l.length ∧ faultTo l k = 0 := hx
 obtain ⟨hk, hf⟩ := hx
 have ha := lst_in hf (by omega)
 have hE := encL_bits l k
 have hEl := encL_len l k
 refine r1 <| sO 20 3 1 rfl <| e1 11 rfl <| keep [4, 5, 17, 18, 19, 20] rfl <| W_seq ?_
 refine q1 rfl (fun hc7 => ?_) (fun hc7 => ?_)
 try simp only [cs, ne_eq] at hc7
 refine W_skip <| tn <| W_seq <| W_block <| r1 <| sO 21 11 1 rfl <| sO 22 19 2 rfl ?_
 refine val 22 (smpS (l.getD k default)) rfl (by first | rfl | (simp only [Nat.zero_add, Int.toNat_natCast]; rfl)) ?_
 refine sT 7 27 3 rfl <| s0O 35 4 rfl rfl rfl rfl rfl <| e1 43 rfl <| keep [4, 5, 7, 17, 18, 19] rfl <| W_seq <| r1 <| sO 23 43 1 rfl ?_
 refine c1 (fault_any (lstN l k) (l.getD k default)) [1] [1] 24 51 2 rfl rfl rfl rfl rfl rfl rfl rfl Tryd.func60 rfl rfl rfl rfl ⟨rfl, trivial⟩ rfl rfl ?_
 refine sT 8 59 3 rfl <| e1 67 rfl <| keep [4, 5, 7, 8, 17, 18, 19] rfl <| r1 <| sT 25 67 1 rfl <| sO 26 75 2 rfl <| e1 83 rfl <| keep [4, 5, 7, 8, 17, 18, 19, 26] rfl ?_
 refine q1 rfl (fun hc10 => ?_) (fun hc10 => ?_)
 try simp only [cs, ne_eq] at hc10
 refine r1 <| sT 27 83 1 rfl <| sT 2 91 2 rfl <| sT 3 99 3 rfl <| e1 107 rfl <| keep [2, 3] rfl <| W_ret <| tr <| br <| tr <| tr <| br <| tr ?_
 exact out2 2 3 (.d .nils) (SV.i (sfault l)) (π := []) (hout := []) Tryd.results40 rfl rfl rfl (by unfold sfault; rw [if_neg (by omega), faultTo_at (by omega) hf hc10]; rfl) rfl rfl trivial ⟨rfl, rfl⟩
 try simp only [cs, ne_eq] at hc10
 have hf1 : lfault (lstN l k) (l.getD k default) = 0 := (by first | exact hc10 | (simp at hc10; exact hc10))
 have hs := lfault_zero hf1
 have hc := c_small ha hs.1 hs.2.1
 refine W_skip <| tn <| r1 <| sO 29 83 1 rfl ?_
 refine c1 (codes_any (lstN l k) (l.getD k default) ha hs.1 hs.2.1) [1] [1] 30 91 2 rfl rfl rfl rfl rfl rfl rfl rfl Tryd.func64 rfl rfl rfl rfl ⟨rfl, trivial⟩ rfl rfl ?_
 refine sT 28 99 3 rfl <| sT 31 107 4 rfl <| sT 32 115 5 rfl <| sT 9 123 6 rfl <| sT 10 131 7 rfl <| e1 139 rfl <| keep [4, 5, 7, 9, 10, 17, 18, 19] rfl <| r1 <| sT 33 139 1 rfl ?_
 refine c1 (zput_any (encL l k) hE (by omega) (cT (lstN l k) (l.getD k default)) hc.1) [0, 2] [0, 2, 147] 34 147 2 rfl rfl rfl rfl rfl rfl rfl rfl Tryd.func65 rfl rfl rfl rfl ⟨rfl, rfl, trivial⟩ rfl rfl ?_
 refine e1 155 rfl <| keep [4, 5, 7, 10, 17, 18, 19] rfl <| r1 <| sT 35 155 1 rfl ?_
 refine c1 (zput_any (zput (encL l k) (cT (lstN l k) (l.getD k default))) (zput_bits hE _) (by have := zput_len (encL l k) (cT (lstN l k) (l.getD k default)); omega) (cV (lstN l k) (l.getD k default)) hc.2) [0, 147] [0, 147, 163] 36 163 2 rfl rfl rfl rfl rfl rfl rfl rfl Tryd.func65 rfl rfl rfl rfl ⟨rfl, rfl, trivial⟩ rfl rfl ?_
 refine e1 171 rfl <| keep [4, 5, 7, 17, 18, 19] rfl ?_
 refine r0 ?_
 refine sO 37 171 1 rfl ?_
 refine c1 (next_any (lstN l k) (l.getD k default) ha hs.1 hs.2.1) [1] [1] 38 179 2 rfl rfl rfl rfl rfl rfl rfl rfl Tryd.func61 rfl rfl rfl rfl ⟨rfl, trivial⟩ rfl rfl ?_
 refine e1 187 rfl <| bn <| tn ?_
 refine r0 ?_
 refine sAO 39 187 1 rfl <| sT 19 195 2 rfl <| e1 203 rfl <| tn ?_
 exact again ((k + 1 : Nat)) [0, 1, 163] (show (k + 1) ≤ l.length ∧ faultTo l (k + 1) = 0 from ⟨by omega, faultTo_step hf hf1⟩) (show l.length - (k + 1) < l.length - k from (by omega)) rfl ⟨rfl, rfl, rfl, rfl, rfl, trivial⟩ ⟨rfl, rfl, rfl, trivial⟩
 try simp only [cs, ne_eq] at hc7
 refine W_exit <| tx <| tx <| bx <| tn <| r1 ?_
 refine c1 (bytes_any (encL l k)) [0, 2] [0, 2] 40 11 1 rfl rfl rfl rfl rfl rfl rfl rfl Tryd.func66 rfl rfl rfl rfl ⟨rfl, rfl, trivial⟩ rfl rfl ?_
 refine sT 2 19 2 rfl <| sT 3 27 3 rfl <| e1 35 rfl <| keep [2, 3] rfl <| W_ret ?_
 exact absurd (show sfault l = 0 from (by unfold sfault; rw [if_neg (by omega), show l.length = k by omega]; exact hf)) hz
end Go.Proofs.YtalhangpahffeaaDoor.Nice
namespace Go.Proofs.YtalhangpahffeaaDoor.Nice
open Go
set_option linter.unusedVariables false
set_option linter.unusedSimpArgs false
set_option maxRecDepth 100000
set_option maxHeartbeats 4000000
theorem inB_dec (x : Int) : decide (inB x) = (decide (-36028797018963968 ≤ x) && decide (x < 36028797018963968)) := by
 rw [Bool.eq_iff_iff, decide_eq_true_eq, Bool.and_eq_true, decide_eq_true_eq, decide_eq_true_eq]; rfl
def intF (l : List Int) : Nat → Nat → D := fun i _ => .val (.int .i64 (l.getD i 0))
def intV (l : List Int) : SV := .d (.vec 1 l.length (intF l))
def fldF (l : List (Nat × Int)) : Nat → Nat → D := fun i c => match c with | 0 => .val (.int .i64 (l.getD i (0, 0)).1) | 1 => .val (.int .i64 (l.getD i (0, 0)).2) | _ => .any
def fldV (l : List (Nat × Int)) : SV := .d (.vec 2 l.length (fldF l))
def flatN (l : List (Nat × Int)) (q : Nat) : List Int := (l.take q).flatMap fun f => bitsOf f.1 f.2
def flatF (l : List (Nat × Int)) : List Int := l.flatMap fun f => bitsOf f.1 f.2
theorem flatN_succ {l : List (Nat × Int)} {q : Nat} (h : q < l.length) : flatN l (q + 1) = flatN l q ++ bitsOf (l.getD q (0, 0)).1 (l.getD q (0, 0)).2 := by
 unfold flatN
 have : l.getD q (0, 0) = l[q] := by simp [List.getD, h]
 rw [this, List.take_succ_eq_append_getElem h, List.flatMap_append]; simp
theorem flatN_all (l : List (Nat × Int)) : flatN l l.length = flatF l := by unfold flatN flatF; rw [List.take_length]
theorem cat_int {A B : List Int} (i c : Nat) (hi : i < A.length + B.length) (hc : c < 1) : catR (intF A) A.length (intF B) i c = intF (A ++ B) i c := by
 unfold catR intF
 by_cases h : i < A.length
 · rw [if_pos h]; simp [List.getD, List.getElem?_append_left h]
 · rw [if_neg h]; simp [List.getD, List.getElem?_append_right (by omega : A.length ≤ i)]
theorem lit_one (b : Int) (i c : Nat) (hi : i < 1) (hc : c < 1) : litR 1 [.val (.int .i64 b)] i c = intF [b] i c := by
 obtain rfl : i = 0 := by omega
 obtain rfl : c = 0 := by omega
 rfl
theorem cat_one {A : List Int} {b b' : Int} (hb : b' = b) (i c : Nat) (hi : i < A.length + 1) (hc : c < 1) : catR (intF A) A.length (litR 1 [.val (.int .i64 b')]) i c = intF (A ++ [b]) i c := by
 subst hb
 rw [← cat_int i c hi hc]
 unfold catR
 split
 · rfl
 · exact lit_one _ _ _ (by omega) hc
theorem cat_two {A : List Int} {a b a' b' : Int} (ha : a' = a) (hb : b' = b) (i c : Nat) (hi : i < A.length + 2) (hc : c < 1) : catR (intF A) A.length (litR 1 [.val (.int .i64 a'), .val (.int .i64 b')]) i c = intF (A ++ [a, b]) i c := by
 subst ha; subst hb
 rw [← cat_int i c hi hc]
 unfold catR
 split
 · rfl
 · obtain rfl : c = 0 := by omega
   rcases (show i - A.length = 0 ∨ i - A.length = 1 by omega) with e | e <;> rw [e] <;> rfl
theorem pow_in {q : Nat} (h : q ≤ 62) : (1 : Int) ≤ 2 ^ q ∧ (2 : Int) ^ q ≤ 4611686018427387904 := by
 have h1 : 1 ≤ 2 ^ q := Nat.one_le_two_pow
 have h2 : 2 ^ q ≤ 2 ^ 62 := Nat.pow_le_pow_right (by decide) h
 have e : ((2 ^ q : Nat) : Int) = (2 : Int) ^ q := by simp
 omega
theorem shl_one {k : Int} {q : Nat} (h : k = q) (hq : q ≤ 62) : IntKind.i64.wrap (1 * 2 ^ (min k.toNat 64)) = 2 ^ q := by
 subst h
 rw [Int.toNat_natCast, Nat.min_eq_left (by omega), Int.one_mul]
 have := pow_in hq
 exact wrap_in ⟨by omega, by omega⟩
theorem quo_in {v : Int} {q : Nat} (h0 : 0 ≤ v) (hv : v ≤ 9223372036854775807) : 0 ≤ v / 2 ^ q ∧ v / 2 ^ q ≤ 9223372036854775807 := by
 have h1 := div_pow_bd v q (by omega) (by omega)
 exact ⟨Int.ediv_nonneg h0 (Int.le_of_lt (Int.pow_pos (by decide))), by omega⟩
def zf : Nat → Int → List (Nat × Int)
 | 0, _ => [(1, 0)]
 | n + 1, x => [(clW (n + 1), clH (n + 1)), (clB (n + 1), x)]
theorem zf_flat {x : Int} (hx : cls x = 0 → x = 0) : flatF (zf (cls x) x) = bitsOf (clW (cls x)) (clH (cls x)) ++ bitsOf (clB (cls x)) x := by
 cases e : cls x with
 | zero => rw [hx e]; rfl
 | succ n => simp [zf, flatF]
theorem zf_ok {x : Int} (h0 : 0 ≤ x) (h1 : x ≤ 9223372036854775807) (n : Nat) (hn : n < 5) : (zf n x).length ≤ 2 ∧ ∀ i, ((zf n x).getD i (0, 0)).1 ≤ 60 ∧ 0 ≤ ((zf n x).getD i (0, 0)).2 ∧ ((zf n x).getD i (0, 0)).2 ≤ 9223372036854775807 := by
 match n, hn with
 | 0, _ =>
   refine ⟨by simp [zf], fun i => ?_⟩
   match i with
   | 0 => exact ⟨by simp [zf], by simp [zf], by simp [zf]⟩
   | i + 1 => exact ⟨by simp [zf], by simp [zf], by simp [zf]⟩
 | n + 1, hn =>
   refine ⟨by simp [zf], fun i => ?_⟩
   match i with
   | 0 =>
     refine ⟨clW_le _, ?_, (clH_in _).2⟩
     show 0 ≤ clH (n + 1)
     match n, hn with
     | 0, _ | 1, _ | 2, _ | 3, _ => decide
     | n + 4, hn => omega
   | 1 => exact ⟨clB_le _, h0, h1⟩
   | i + 2 => exact ⟨by simp [zf], by simp [zf], by simp [zf]⟩
def numsN (l : List Smp) (k : Nat) : List Int := (List.range k).flatMap fun i => [cT (lstN l i) (l.getD i default), cV (lstN l i) (l.getD i default)]
def nums (l : List Smp) : List Int := numsN l l.length
theorem numsN_succ (l : List Smp) (k : Nat) : numsN l (k + 1) = numsN l k ++ [cT (lstN l k) (l.getD k default), cV (lstN l k) (l.getD k default)] := by unfold numsN; rw [List.range_succ, List.flatMap_append]; simp
theorem numsN_len (l : List Smp) : ∀ k, (numsN l k).length = 2 * k
 | 0 => rfl
 | k + 1 => by rw [numsN_succ, List.length_append, numsN_len l k]; simp; omega
theorem cT_eq (l : List Smp) (k : Nat) (s : Smp) : cT (lstN l k) s = if k = 0 then s.t else if k = 1 then s.t - (l.getD 0 default).t else s.t - 2 * (l.getD (k - 1) default).t + (l.getD (k - 2) default).t := by
 unfold cT
 rw [lstN_n, lstN_st]
 by_cases h0 : k = 0
 · subst h0; rfl
 · rw [if_neg (by omega), if_neg h0, (lstN_t l (by omega)).1]
   by_cases h1 : k = 1
   · subst h1; rw [if_neg (by omega), if_pos rfl]; simp
   · rw [if_pos (by omega), if_neg h1]; omega
theorem cV_eq (l : List Smp) (k : Nat) (s : Smp) : cV (lstN l k) s = if k = 0 then s.v else s.v - (l.getD (k - 1) default).v := by
 unfold cV
 rw [lstN_n]
 by_cases h0 : k = 0
 · subst h0; rfl
 · rw [if_neg (by omega), if_neg h0, (lstN_t l (by omega)).2]
theorem nums_sm {l : List Smp} (hz : faultTo l l.length = 0) (hl : l.length ≤ 120) : ∀ n ∈ nums l, isSm n := by
 intro n hn
 unfold nums numsN at hn
 obtain ⟨i, hi, hm⟩ := List.mem_flatMap.1 hn
 rw [List.mem_range] at hi
 have hs := smp_at hz hi
 have hc := c_small (lst_in (faultTo_le (Nat.le_of_lt hi) hz) (by omega)) hs.1 hs.2.1
 simp only [List.mem_cons, List.not_mem_nil, or_false] at hm
 rcases hm with rfl | rfl
 · exact hc.1
 · exact hc.2
theorem getI_mem {l : List Int} {q : Nat} (h : q < l.length) : l.getD q 0 ∈ l := by
 have : l.getD q 0 = l[q] := by simp [List.getD, h]
 rw [this]; exact List.getElem_mem h
def refL (l : List Smp) (q : Nat) : List Int := bitsOf 8 l.length ++ ((nums l).take q).flatMap zbits
theorem refL_succ {l : List Smp} {q : Nat} (h : q < (nums l).length) : refL l (q + 1) = refL l q ++ zbits ((nums l).getD q 0) := by
 unfold refL
 have : (nums l).getD q 0 = (nums l)[q] := by simp [List.getD, h]
 rw [this, List.take_succ_eq_append_getElem h, List.flatMap_append]; simp
theorem encL_eq (l : List Smp) : ∀ k, encL l k = bitsOf 8 l.length ++ (numsN l k).flatMap zbits
 | 0 => by simp [encL, numsN]
 | k + 1 => by
   show zput (zput (encL l k) _) _ = _
   rw [zput_eq, zput_eq, encL_eq l k, numsN_succ, List.flatMap_append]
   simp
theorem refL_all (l : List Smp) : refL l (nums l).length = encL l l.length := by unfold refL; rw [List.take_length, encL_eq]; rfl
theorem zbits_len (n : Int) : (zbits n).length ≤ 120 := by
 have := zput_len [] n
 rw [zput_eq] at this; simpa using this
theorem refL_len (l : List Smp) : ∀ q, (refL l q).length ≤ 8 + 120 * q := by
 intro q
 induction q with
 | zero => unfold refL; simp [bitsOf_length]
 | succ q ih =>
   by_cases h : q < (nums l).length
   · rw [refL_succ h, List.length_append]; have := zbits_len ((nums l).getD q 0); omega
   · have : refL l (q + 1) = refL l q := by unfold refL; rw [List.take_of_length_le (by omega), List.take_of_length_le (by omega)]
     rw [this]; omega
theorem refL_bits (l : List Smp) : AllBits (refL l (nums l).length) := by rw [refL_all]; exact encL_bits l _
theorem pack_zero (L : List Int) (hL : AllBits L) : pack (L ++ [0]) = packRoom L := by
 rw [pack_snoc L hL 0]
 apply List.ext_getElem?
 intro j
 rw [List.getElem?_set, packRoom_length]
 by_cases he : L.length / 8 = j
 · subst he
   rw [if_pos rfl, if_pos (by omega), packRoom_get L _ (by omega)]
   simp
 · rw [if_neg he]
theorem bit_take (L : List Int) (k : Nat) (h : k < L.length) : L.take (k + 1) = L.take k ++ [L.getD k 0] := by
 rw [List.take_succ_eq_append_getElem h]; simp [List.getD, List.getElem?_eq_getElem h]
theorem shr128 {k : Int} {r : Nat} (h : k = r) (hr : r < 8) : (128 : Int).fdiv (2 ^ (min k.toNat 8)) = 2 ^ (7 - r) := by
 subst h
 have e : r = 0 ∨ r = 1 ∨ r = 2 ∨ r = 3 ∨ r = 4 ∨ r = 5 ∨ r = 6 ∨ r = 7 := by omega
 rcases e with rfl | rfl | rfl | rfl | rfl | rfl | rfl | rfl <;> decide
theorem add_bit {M : List Int} (hM : AllBits M) : IntKind.u8.wrap (packByte M (M.length / 8) + 2 ^ (7 - M.length % 8)) = packByte M (M.length / 8) + 1 * 2 ^ (7 - M.length % 8) := by
 have h1 : AllBits [(1 : Int)] := by intro x hx; simp at hx; exact .inr hx
 have h2 := packByte_last M hM 1 (M.length / 8) (M.length % 8) (by omega) (by omega)
 have h3 := packByte_bd (M ++ [1]) (hM.append h1) (M.length / 8)
 rw [h2.1] at h3
 rw [IntKind.wrap_u8, Int.one_mul]
 rw [Int.one_mul] at h3
 exact Int.emod_eq_of_lt h3.1 (by omega)
theorem inb_any (x : Int) : Spec Tryd.prog GC 19 [SV.i x] [] (fun r ho => r = SV.b (decide (inB x)) ∧ ho = []) := by
 refine start 9 0 Tryd.func19 rfl rfl rfl rfl ?_
 refine r1 <| sT 2 0 1 rfl <| e1 8 rfl <| keep [0] rfl <| r1 <| sT 3 8 1 rfl <| sO 4 16 2 rfl <| sT 5 24 3 rfl ?_
 refine ask 5 rfl (fun hg1_5 => ?_) (fun hg1_5 => ?_)
 try simp only [cs, ne_eq] at hg1_5
 refine gT 2 true 5 4 rfl rfl <| sT 6 32 4 rfl <| gT 2 true 5 5 rfl rfl <| sO 7 40 5 rfl <| sT 8 48 6 rfl <| sT 2 56 7 rfl <| e1 64 rfl <| keep [2] rfl <| W_ret ?_
 exact out1 2 (SV.b (decide (inB x))) (π := []) (hout := []) Tryd.results19 rfl (by show SV.b _ = SV.b _; rw [inB_dec]; refine congrArg SV.b (Bool.eq_iff_iff.2 ?_); simp at *; try omega) rfl rfl trivial ⟨rfl, rfl⟩
 try simp only [cs, ne_eq] at hg1_5
 refine gF 2 true 5 6 4 rfl rfl <| gF 2 true 5 7 5 rfl rfl <| sT 8 48 6 rfl <| sT 2 56 7 rfl <| e1 64 rfl <| keep [2] rfl <| W_ret ?_
 exact out1 2 (SV.b (decide (inB x))) (π := []) (hout := []) Tryd.results19 rfl (by show SV.b _ = SV.b _; rw [inB_dec]; refine congrArg SV.b (Bool.eq_iff_iff.2 ?_); simp at *; try omega) rfl rfl trivial ⟨rfl, rfl⟩
theorem sfault_any (l : List Smp) (hin : SmpIn l) : Spec Tryd.prog GC 48 [smpV l] [] (fun r ho => r = SV.i (sfault l) ∧ ho = []) := by
 refine start 39 0 Tryd.func48 rfl rfl rfl rfl ?_
 refine r1 <| sT 2 0 1 rfl <| e1 8 rfl <| keep [0] rfl <| W_seq <| r1 <| sT 5 8 1 rfl <| sO 6 16 2 rfl <| sO 7 24 3 rfl <| e1 32 rfl <| keep [0, 7] rfl ?_
 refine q1 rfl (fun hc1 => ?_) (fun hc1 => ?_)
 try simp only [cs, ne_eq] at hc1
 refine r1 <| sT 2 32 1 rfl <| e1 40 rfl <| keep [2] rfl <| W_ret <| tr ?_
 exact out1 2 (SV.i (sfault l)) (π := []) (hout := []) Tryd.results48 rfl (by unfold sfault; rw [if_pos (by omega)]; rfl) rfl rfl trivial ⟨rfl, rfl⟩
 try simp only [cs, ne_eq] at hc1
 refine W_skip <| tn <| W_seq <| r1 <| sT 8 32 1 rfl <| sO 9 40 2 rfl <| sT 10 48 3 rfl <| e1 56 rfl <| keep [0, 8, 9, 10] rfl <| W_block ?_
 have hl := hin.n
 have hl2 : l.length ≤ 120 := (by omega)
 refine loop (α := Nat) 0 (fun k => [(0, smpV l), (8, smpV l), (9, SV.i l.length), (10, SV.i (k))]) (fun k => []) (fun k => (k) ≤ l.length ∧ faultTo l (k) = 0) (fun k => l.length - (k)) (((0) : Nat)) [] (fun _ => rfl) (show (0) ≤ l.length ∧ faultTo l (0) = 0 from ⟨Nat.zero_le _, rfl⟩) rfl ⟨rfl, rfl, rfl, rfl, trivial⟩ trivial (fun k hx => ?_)
 show W _ _ _ ⟨tOf [(0, smpV l), (8, smpV l), (9, SV.i l.length), (10, SV.i k)], hOf [], 0⟩
 have hx : k ≤ l.length ∧ faultTo l k = 0 := hx
 obtain ⟨hk, hf⟩ := hx
 refine r1 <| sO 11 0 1 rfl <| e1 8 rfl <| keep [0, 8, 9, 10, 11] rfl <| W_seq ?_
 refine q1 rfl (fun hc4 => ?_) (fun hc4 => ?_)
 · skip
   try simp only [cs, ne_eq] at hc4
   refine W_skip <| tn <| W_seq <| W_block <| r1 <| sT 12 8 1 rfl <| sO 13 16 2 rfl <| sO 14 24 3 rfl ?_
   refine val 14 (smpS (l.getD k default)) rfl (by first | rfl | (simp only [Nat.zero_add, Int.toNat_natCast]; rfl)) ?_
   refine sT 4 32 4 rfl <| sT 3 40 5 rfl <| s0O 48 6 rfl rfl rfl rfl rfl <| e1 56 rfl <| keep [0, 3, 4, 8, 9, 10] rfl <| W_seq <| r1 <| sT 15 56 1 rfl <| sO 16 64 2 rfl ?_
   refine c1 (inb_any (l.getD k default).t) [] [] 17 72 3 rfl rfl rfl rfl rfl rfl rfl rfl Tryd.func19 rfl rfl rfl rfl trivial rfl rfl ?_
   refine sT 18 80 4 rfl <| sT 19 88 5 rfl ?_
   refine ask 19 rfl (fun hg6_19 => ?_) (fun hg6_19 => ?_)
   try simp only [cs, ne_eq] at hg6_19
   refine gF 4 false 19 20 6 rfl rfl <| gF 4 false 19 21 7 rfl rfl <| gF 4 false 19 22 8 rfl rfl <| gF 4 false 19 23 9 rfl rfl <| sT 24 128 10 rfl <| e1 136 rfl <| keep [0, 3, 4, 8, 9, 10, 24] rfl ?_
   refine q1 rfl (fun hc6 => ?_) (fun hc6 => ?_)
   try simp only [cs, ne_eq] at hc6
   refine r1 <| sT 2 136 1 rfl <| e1 144 rfl <| keep [2] rfl <| W_ret <| tr <| br <| tr <| tr <| br <| tr ?_
   exact out1 2 (SV.i (sfault l)) (π := []) (hout := []) Tryd.results48 rfl (by unfold sfault; rw [if_neg (by omega)]; have hlf : lfault (lstN l k) (l.getD k default) = 11 := (by unfold lfault; rw [if_neg (by rintro ⟨g1, g2⟩; simp_all)]); rw [faultTo_at (by omega) hf (by rw [hlf]; decide), hlf]; rfl) rfl rfl trivial ⟨rfl, rfl⟩
   exact absurd hc6 (by decide)
   try simp only [cs, ne_eq] at hg6_19
   refine gT 4 false 19 6 rfl rfl <| sT 20 96 6 rfl <| gT 4 false 19 7 rfl rfl <| sO 21 104 7 rfl <| gT 4 false 19 8 rfl rfl ?_
   refine c1 (inb_any (l.getD k default).v) [] [] 22 112 8 rfl rfl rfl rfl rfl rfl rfl rfl Tryd.func19 rfl rfl rfl rfl trivial rfl rfl ?_
   refine gT 4 false 19 9 rfl rfl <| sT 23 120 9 rfl <| sT 24 128 10 rfl <| e1 136 rfl <| keep [0, 3, 4, 8, 9, 10, 24] rfl ?_
   refine q1 rfl (fun hc6 => ?_) (fun hc6 => ?_)
   try simp only [cs, ne_eq] at hc6
   refine r1 <| sT 2 136 1 rfl <| e1 144 rfl <| keep [2] rfl <| W_ret <| tr <| br <| tr <| tr <| br <| tr ?_
   exact out1 2 (SV.i (sfault l)) (π := []) (hout := []) Tryd.results48 rfl (by unfold sfault; rw [if_neg (by omega)]; have hlf : lfault (lstN l k) (l.getD k default) = 11 := (by unfold lfault; rw [if_neg (by rintro ⟨g1, g2⟩; simp_all)]); rw [faultTo_at (by omega) hf (by rw [hlf]; decide), hlf]; rfl) rfl rfl trivial ⟨rfl, rfl⟩
   try simp only [cs, ne_eq] at hc6
   refine W_skip <| tn ?_
   refine rd1 rfl ?_
   refine dT 25 136 1 rfl <| dO 26 144 2 rfl <| dT 27 152 3 rfl ?_
   refine ask 27 rfl (fun hg8_27 => ?_) (fun hg8_27 => ?_)
   · skip
     try simp only [cs, ne_eq] at hg8_27
     refine gT 2 true 27 4 rfl rfl <| dT 28 160 4 rfl <| gT 2 true 27 5 rfl rfl <| dO 29 168 5 rfl <| gT 2 true 27 6 rfl rfl <| dT 30 176 6 rfl <| gT 2 true 27 7 rfl rfl <| dT 31 184 7 rfl <| gT 2 true 27 8 rfl rfl <| dAO 32 192 8 rfl <| gT 2 true 27 9 rfl rfl <| dO 33 200 9 rfl <| gT 2 true 27 10 rfl rfl <| dT 34 208 10 rfl <| gT 2 true 27 11 rfl rfl <| dO 35 216 11 rfl ?_
     refine val 35 (SV.i (l.getD (k - 1) default).t) rfl (by rw [show ((k : Int) - 1).toNat = k - 1 by omega]) ?_
     refine gT 2 true 27 12 rfl rfl <| dO 36 224 12 rfl <| dT 37 232 13 rfl <| de1 240 rfl (by kernel_rfl) <| keep [0, 8, 9, 10, 37] rfl ?_
     refine q1 rfl (fun hc8 => ?_) (fun hc8 => ?_)
     · skip
       try simp only [cs, ne_eq] at hc8
       refine r1 <| sT 2 240 1 rfl <| e1 248 rfl <| keep [2] rfl <| W_ret <| br <| tr <| tr <| br <| tr ?_
       exact out1 2 (SV.i (sfault l)) (π := []) (hout := []) Tryd.results48 rfl (by unfold sfault; rw [if_neg (by omega)]; have hlf : lfault (lstN l k) (l.getD k default) = 9 := (by unfold lfault; rw [if_pos (by constructor <;> simp_all), if_pos (by rw [lstN_n, (lstN_t l (by omega)).1]; omega)]); rw [faultTo_at (by omega) hf (by rw [hlf]; decide), hlf]; rfl) rfl rfl trivial ⟨rfl, rfl⟩
     try simp only [cs, ne_eq] at hc8
     refine W_skip <| bn <| tn ?_
     refine r0 ?_
     refine sAO 38 240 1 rfl <| sT 10 248 2 rfl <| e1 256 rfl <| tn ?_
     exact again ((k + 1 : Nat)) [] (show (k + 1) ≤ l.length ∧ faultTo l (k + 1) = 0 from ⟨by omega, faultTo_step hf (by unfold lfault; rw [if_pos (by constructor <;> simp_all), if_neg (by rw [lstN_n]; rintro ⟨g1, g2⟩; rw [(lstN_t l (by omega)).1] at g2; omega)])⟩) (show l.length - (k + 1) < l.length - k from (by omega)) rfl ⟨rfl, rfl, rfl, rfl, trivial⟩ trivial
   try simp only [cs, ne_eq] at hg8_27
   refine gF 2 true 27 28 4 rfl rfl <| gF 2 true 27 29 5 rfl rfl <| gF 2 true 27 30 6 rfl rfl <| gF 2 true 27 31 7 rfl rfl <| gF 2 true 27 32 8 rfl rfl <| gF 2 true 27 33 9 rfl rfl <| gF 2 true 27 34 10 rfl rfl <| gF 2 true 27 35 11 rfl rfl <| gF 2 true 27 36 12 rfl rfl <| dT 37 232 13 rfl <| de1 240 rfl (by kernel_rfl) <| keep [0, 8, 9, 10, 37] rfl ?_
   refine q1 rfl (fun hc8 => ?_) (fun hc8 => ?_)
   exact absurd hc8 (by decide)
   try simp only [cs, ne_eq] at hc8
   refine W_skip <| bn <| tn ?_
   refine r0 ?_
   refine sAO 38 240 1 rfl <| sT 10 248 2 rfl <| e1 256 rfl <| tn ?_
   exact again ((k + 1 : Nat)) [] (show (k + 1) ≤ l.length ∧ faultTo l (k + 1) = 0 from ⟨by omega, faultTo_step hf (by unfold lfault; rw [if_pos (by constructor <;> simp_all), if_neg (by rw [lstN_n]; rintro ⟨g1, g2⟩; rw [(lstN_t l (by omega)).1] at g2; omega)])⟩) (show l.length - (k + 1) < l.length - k from (by omega)) rfl ⟨rfl, rfl, rfl, rfl, trivial⟩ trivial
 try simp only [cs, ne_eq] at hc4
 refine W_exit <| tx <| tx <| bx <| tn <| r1 <| sT 2 8 1 rfl <| e1 16 rfl <| keep [2] rfl <| W_ret ?_
 exact out1 2 (SV.i (sfault l)) (π := []) (hout := []) Tryd.results48 rfl (by unfold sfault; rw [if_neg (by omega), show l.length = k by omega, hf]; rfl) rfl rfl trivial ⟨rfl, rfl⟩
theorem bits_any (fs : List (Nat × Int)) (hl : fs.length ≤ 10) (hf : ∀ i, (fs.getD i (0, 0)).1 ≤ 60 ∧ 0 ≤ (fs.getD i (0, 0)).2 ∧ (fs.getD i (0, 0)).2 ≤ 9223372036854775807) : Spec Tryd.prog GC 49 [fldV fs] [] (fun r ho => r = .sl 0 0 (flatF fs).length ∧ ho = [some (.rows 3 1 (flatF fs).length (intF (flatF fs)))]) := by
 refine start 33 0 Tryd.func49 rfl rfl rfl rfl ?_
 refine r1 <| sT 2 0 1 rfl <| e1 8 rfl <| keep [0] rfl <| r1 <| sT 3 8 1 rfl <| e1 16 rfl <| keep [0, 3] rfl <| W_seq <| r1 <| sT 7 16 1 rfl <| sO 8 24 2 rfl <| sT 9 32 3 rfl <| e1 40 rfl <| keep [3, 7, 8, 9] rfl <| W_block ?_
 refine ghostly 3 3 1 (intF []) rfl ?_
 refine loop (α := Nat × List Int) 1 (fun z => [(3, .sl 0 0 (z.2).length), (7, fldV fs), (8, SV.i fs.length), (9, SV.i (z.1))]) (fun z => [some (.rows 3 1 (z.2).length (intF (z.2)))]) (fun z => (z.1) ≤ fs.length ∧ (z.2) = flatN fs (z.1) ∧ (z.2).length ≤ 60 * (z.1)) (fun z => fs.length - (z.1)) (((0, []) : Nat × List Int)) [40] (fun _ => rfl) (show (0) ≤ fs.length ∧ ([]) = flatN fs (0) ∧ ([]).length ≤ 60 * (0) from ⟨Nat.zero_le _, rfl, by decide⟩) rfl ⟨rfl, rfl, rfl, rfl, trivial⟩ ⟨rfl, trivial⟩ (fun z hx => ?_)
 obtain ⟨q, L⟩ := z
 show W _ _ _ ⟨tOf [(3, .sl 0 0 L.length), (7, fldV fs), (8, SV.i fs.length), (9, SV.i q)], hOf [some (.rows 3 1 L.length (intF L))], 1⟩
 have hx : q ≤ fs.length ∧ L = flatN fs q ∧ L.length ≤ 60 * q := hx
 obtain ⟨hq, hL, hLl⟩ := hx
 have hF := hf q
 refine r1 <| sO 10 1 1 rfl <| e1 9 rfl <| keep [3, 7, 8, 9, 10] rfl <| W_seq ?_
 refine q1 rfl (fun hc3 => ?_) (fun hc3 => ?_)
 try simp only [cs, ne_eq] at hc3
 refine W_skip <| tn <| W_seq <| W_block <| r1 <| sO 11 9 1 rfl <| sO 12 17 2 rfl ?_
 refine val 12 (.agg [SV.i (fs.getD q (0, 0)).1, SV.i (fs.getD q (0, 0)).2]) rfl (by first | rfl | (simp only [Nat.zero_add, Int.toNat_natCast]; rfl)) ?_
 refine sT 5 25 3 rfl <| s0O 33 4 rfl rfl rfl rfl rfl <| e1 41 rfl <| keep [3, 5, 7, 8, 9] rfl <| r1 <| sT 6 41 1 rfl <| e1 49 rfl <| keep [3, 5, 6, 7, 8, 9] rfl <| W_block ?_
 refine loop (α := Nat × List Int × Int) 2 (fun z => [(3, .sl 0 0 (z.2.1).length), (5, .ptr 1 0 0), (6, SV.i (z.2.2)), (7, fldV fs), (8, SV.i fs.length), (9, SV.i q)]) (fun z => [some (.rows 3 1 (z.2.1).length (intF (z.2.1))), some (.cells 101 2 [SV.i (fs.getD q (0, 0)).1, SV.i (fs.getD q (0, 0)).2])]) (fun z => (z.1) ≤ (fs.getD q (0, 0)).1 ∧ (z.2.1) = L ++ (bitsOf (fs.getD q (0, 0)).1 (fs.getD q (0, 0)).2).take (z.1) ∧ (z.2.2) = (z.1) + 1 ∧ (z.2.1).length ≤ 60 * q + (z.1)) (fun z => (fs.getD q (0, 0)).1 - (z.1)) (((0, L, 1) : Nat × List Int × Int)) [0, 25] (fun _ => rfl) (show (0) ≤ (fs.getD q (0, 0)).1 ∧ (L) = L ++ (bitsOf (fs.getD q (0, 0)).1 (fs.getD q (0, 0)).2).take (0) ∧ (1) = (0) + 1 ∧ (L).length ≤ 60 * q + (0) from ⟨Nat.zero_le _, by simp, by simp, by omega⟩) rfl ⟨rfl, rfl, rfl, rfl, rfl, rfl, trivial⟩ ⟨rfl, rfl, trivial⟩ (fun z hx => ?_)
 obtain ⟨j, M, k⟩ := z
 show W _ _ _ ⟨tOf [(3, .sl 0 0 M.length), (5, .ptr 1 0 0), (6, SV.i k), (7, fldV fs), (8, SV.i fs.length), (9, SV.i q)], hOf [some (.rows 3 1 M.length (intF M)), some (.cells 101 2 [SV.i (fs.getD q (0, 0)).1, SV.i (fs.getD q (0, 0)).2])], 2⟩
 have hx : j ≤ (fs.getD q (0, 0)).1 ∧ M = L ++ (bitsOf (fs.getD q (0, 0)).1 (fs.getD q (0, 0)).2).take j ∧ k = j + 1 ∧ M.length ≤ 60 * q + j := hx
 obtain ⟨hj, hM, hk, hMl⟩ := hx
 refine W_seq <| r1 <| sT 13 2 1 rfl <| sT 14 10 2 rfl <| sO 15 18 3 rfl <| sO 16 26 4 rfl <| e1 34 rfl <| keep [3, 5, 6, 7, 8, 9, 16] rfl ?_
 refine q1 rfl (fun hc6 => ?_) (fun hc6 => ?_)
 try simp only [cs, ne_eq] at hc6
 refine W_skip <| tn <| W_seq <| W_block ?_
 refine rd0 rfl ?_
 refine dT 19 34 1 rfl <| dT 20 42 2 rfl <| dO 21 50 3 rfl <| dT 22 58 4 rfl <| dO 23 66 5 rfl <| dT 24 74 6 rfl <| dAO 25 82 7 rfl <| dO 26 90 8 rfl ?_
 refine val 26 (SV.i (2 ^ ((fs.getD q (0, 0)).1 - 1 - j))) rfl (congrArg (fun x => SV.d (D.val (Value.int .i64 x))) (shl_one (by omega) (by omega))) ?_
 refine dD 27 98 9 rfl rfl rfl rfl rfl rfl rfl rfl rfl ⟨hF.2.1, hF.2.2, (by have := pow_in (q := (fs.getD q (0, 0)).1 - 1 - j) (by omega); omega)⟩ ?_
 refine dD 28 106 10 rfl rfl rfl rfl rfl rfl rfl rfl rfl ⟨(quo_in hF.2.1 hF.2.2).1, (quo_in hF.2.1 hF.2.2).2, by decide⟩ ?_
 refine dT 29 114 11 rfl ?_
 refine dV 30 122 12 rfl ⟨Nat.le_refl _, trivial, (by show (M.length + 1) * 8 ≤ 140737488355328; omega), (by simp only [maxLen]; omega)⟩ ?_
 refine dT 3 130 13 rfl <| de1 138 rfl (by kernel_rfl) <| bn <| tn ?_
 refine rowsc 122 (M ++ [((fs.getD q (0, 0)).2 / 2 ^ ((fs.getD q (0, 0)).1 - 1 - j) % 2)]).length (intF (M ++ [((fs.getD q (0, 0)).2 / 2 ^ ((fs.getD q (0, 0)).1 - 1 - j) % 2)])) rfl (by simp) (fun i c hi hc => cat_one rfl i c hi hc) ?_
 refine cval 3 (.sl 122 0 (M ++ [((fs.getD q (0, 0)).2 / 2 ^ ((fs.getD q (0, 0)).1 - 1 - j) % 2)]).length) rfl (by simp) ?_
 refine r0 ?_
 refine sT 17 138 1 rfl <| sAO 18 146 2 rfl <| sT 6 154 3 rfl <| e1 162 rfl <| tn ?_
 exact again (((j + 1, M ++ [((fs.getD q (0, 0)).2 / 2 ^ ((fs.getD q (0, 0)).1 - 1 - j) % 2)], k + 1) : Nat × List Int × Int)) [122, 1] (show (j + 1) ≤ (fs.getD q (0, 0)).1 ∧ (M ++ [((fs.getD q (0, 0)).2 / 2 ^ ((fs.getD q (0, 0)).1 - 1 - j) % 2)]) = L ++ (bitsOf (fs.getD q (0, 0)).1 (fs.getD q (0, 0)).2).take (j + 1) ∧ (k + 1) = (j + 1) + 1 ∧ (M ++ [((fs.getD q (0, 0)).2 / 2 ^ ((fs.getD q (0, 0)).1 - 1 - j) % 2)]).length ≤ 60 * q + (j + 1) from ⟨by omega, by rw [hM, bitsOf_take _ j _ (by omega), List.append_assoc], by omega, by rw [List.length_append]; show M.length + 1 ≤ _; omega⟩) (show (fs.getD q (0, 0)).1 - (j + 1) < (fs.getD q (0, 0)).1 - j from (by omega)) rfl ⟨rfl, rfl, rfl, rfl, rfl, rfl, trivial⟩ ⟨rfl, rfl, trivial⟩
 try simp only [cs, ne_eq] at hc6
 refine W_exit <| tx <| tx <| bx <| bn <| tn ?_
 refine r0 ?_
 refine sAO 31 34 1 rfl <| sT 9 42 2 rfl <| e1 50 rfl <| tn ?_
 exact again (((q + 1, M) : Nat × List Int)) [0] (show (q + 1) ≤ fs.length ∧ (M) = flatN fs (q + 1) ∧ (M).length ≤ 60 * (q + 1) from ⟨by omega, by rw [flatN_succ (by omega), hM, List.take_of_length_le (by rw [bitsOf_length]; omega), hL], by omega⟩) (show fs.length - (q + 1) < fs.length - q from (by omega)) rfl ⟨rfl, rfl, rfl, rfl, trivial⟩ ⟨rfl, trivial⟩
 try simp only [cs, ne_eq] at hc3
 refine W_exit <| tx <| tx <| bx <| tn <| r1 <| sT 32 9 1 rfl <| sT 2 17 2 rfl <| e1 25 rfl <| keep [2] rfl <| W_ret ?_
 obtain rfl : L = flatF fs := (by rw [hL, show q = fs.length by omega, flatN_all])
 exact out1 2 (.sl 0 0 (flatF fs).length) (π := [0]) (hout := [some (.rows 3 1 (flatF fs).length (intF (flatF fs)))]) Tryd.results49 rfl rfl rfl rfl ⟨rfl, trivial⟩ ⟨rfl, rfl⟩
theorem zf_any (x : Int) (h0 : 0 ≤ x) : Spec Tryd.prog GC 52 [SV.i x] [] (fun r ho => r = fldV (zf (cls x) x) ∧ ho = []) := by
 refine start 33 0 Tryd.func52 rfl rfl rfl rfl ?_
 refine r1 <| sT 2 0 1 rfl <| e1 8 rfl <| keep [0] rfl <| W_seq <| W_block <| r1 <| sT 4 8 1 rfl <| sO 5 16 2 rfl <| sT 3 24 3 rfl <| e1 32 rfl <| keep [0, 3] rfl ?_
 refine q1 rfl (fun hc1 => ?_) (fun hc1 => ?_)
 · skip
   try simp only [cs, ne_eq] at hc1
   refine r1 <| sT 6 32 1 rfl ?_
   refine sLit 2 (fldF (zf 0 x)) 7 40 2 rfl rfl rfl rfl rfl rfl rfl rfl rfl (by intro i c hi hc; obtain rfl : i = 0 := (by omega); rcases (show c = 0 ∨ c = 1 by omega) with rfl | rfl <;> rfl) ?_
   refine sT 2 48 3 rfl <| e1 56 rfl <| keep [2] rfl <| W_ret <| br <| tr ?_
   have hcl : cls x = 0 := (by unfold cls; rw [if_pos (by omega)])
   exact out1 2 (fldV (zf (cls x) x)) (π := []) (hout := []) Tryd.results52 rfl (by rw [hcl]; rfl) rfl rfl trivial ⟨rfl, rfl⟩
 try simp only [cs, ne_eq] at hc1
 refine r1 <| sT 9 32 1 rfl <| sO 10 40 2 rfl <| sT 8 48 3 rfl <| e1 56 rfl <| keep [0, 8] rfl ?_
 refine q1 rfl (fun hc3 => ?_) (fun hc3 => ?_)
 · skip
   try simp only [cs, ne_eq] at hc3
   refine r1 <| sT 11 56 1 rfl <| sT 12 64 2 rfl <| sT 13 72 3 rfl ?_
   refine sLit 2 (fldF (zf 1 x)) 14 80 4 rfl rfl rfl rfl rfl rfl rfl rfl rfl (by intro i c hi hc; rcases (show i = 0 ∨ i = 1 by omega) with rfl | rfl <;> rcases (show c = 0 ∨ c = 1 by omega) with rfl | rfl <;> rfl) ?_
   refine sT 2 88 5 rfl <| e1 96 rfl <| keep [2] rfl <| W_ret <| br <| tr ?_
   have hcl : cls x = 1 := (by unfold cls; rw [if_neg (by omega)]; rw [if_pos (by omega)])
   exact out1 2 (fldV (zf (cls x) x)) (π := []) (hout := []) Tryd.results52 rfl (by rw [hcl]; rfl) rfl rfl trivial ⟨rfl, rfl⟩
 try simp only [cs, ne_eq] at hc3
 refine r1 <| sT 16 56 1 rfl <| sO 17 64 2 rfl <| sT 15 72 3 rfl <| e1 80 rfl <| keep [0, 15] rfl ?_
 refine q1 rfl (fun hc5 => ?_) (fun hc5 => ?_)
 · skip
   try simp only [cs, ne_eq] at hc5
   refine r1 <| sT 18 80 1 rfl <| sT 19 88 2 rfl <| sT 20 96 3 rfl ?_
   refine sLit 2 (fldF (zf 2 x)) 21 104 4 rfl rfl rfl rfl rfl rfl rfl rfl rfl (by intro i c hi hc; rcases (show i = 0 ∨ i = 1 by omega) with rfl | rfl <;> rcases (show c = 0 ∨ c = 1 by omega) with rfl | rfl <;> rfl) ?_
   refine sT 2 112 5 rfl <| e1 120 rfl <| keep [2] rfl <| W_ret <| br <| tr ?_
   have hcl : cls x = 2 := (by unfold cls; rw [if_neg (by omega)]; rw [if_neg (by omega)]; rw [if_pos (by omega)])
   exact out1 2 (fldV (zf (cls x) x)) (π := []) (hout := []) Tryd.results52 rfl (by rw [hcl]; rfl) rfl rfl trivial ⟨rfl, rfl⟩
 try simp only [cs, ne_eq] at hc5
 refine r1 <| sT 23 80 1 rfl <| sO 24 88 2 rfl <| sT 22 96 3 rfl <| e1 104 rfl <| keep [0, 22] rfl ?_
 refine q1 rfl (fun hc7 => ?_) (fun hc7 => ?_)
 · skip
   try simp only [cs, ne_eq] at hc7
   refine r1 <| sT 25 104 1 rfl <| sT 26 112 2 rfl <| sT 27 120 3 rfl ?_
   refine sLit 2 (fldF (zf 3 x)) 28 128 4 rfl rfl rfl rfl rfl rfl rfl rfl rfl (by intro i c hi hc; rcases (show i = 0 ∨ i = 1 by omega) with rfl | rfl <;> rcases (show c = 0 ∨ c = 1 by omega) with rfl | rfl <;> rfl) ?_
   refine sT 2 136 5 rfl <| e1 144 rfl <| keep [2] rfl <| W_ret <| br <| tr ?_
   have hcl : cls x = 3 := (by unfold cls; rw [if_neg (by omega)]; rw [if_neg (by omega)]; rw [if_neg (by omega)]; rw [if_pos (by omega)])
   exact out1 2 (fldV (zf (cls x) x)) (π := []) (hout := []) Tryd.results52 rfl (by rw [hcl]; rfl) rfl rfl trivial ⟨rfl, rfl⟩
 try simp only [cs, ne_eq] at hc7
 refine W_skip <| bn <| tn <| r1 <| sT 29 104 1 rfl <| sT 30 112 2 rfl <| sT 31 120 3 rfl ?_
 refine sLit 2 (fldF (zf 4 x)) 32 128 4 rfl rfl rfl rfl rfl rfl rfl rfl rfl (by intro i c hi hc; rcases (show i = 0 ∨ i = 1 by omega) with rfl | rfl <;> rcases (show c = 0 ∨ c = 1 by omega) with rfl | rfl <;> rfl) ?_
 refine sT 2 136 5 rfl <| e1 144 rfl <| keep [2] rfl <| W_ret ?_
 have hcl : cls x = 4 := (by unfold cls; rw [if_neg (by omega)]; rw [if_neg (by omega)]; rw [if_neg (by omega)]; rw [if_neg (by omega)])
 exact out1 2 (fldV (zf (cls x) x)) (π := []) (hout := []) Tryd.results52 rfl (by rw [hcl]; rfl) rfl rfl trivial ⟨rfl, rfl⟩
theorem isSmall_any (n : Int) : Spec Tryd.prog GC 70 [SV.i n] [] (fun r ho => r = SV.b (decide (-288230376151711744 ≤ n) && decide (n < 288230376151711744)) ∧ ho = []) := by
 refine start 9 0 Tryd.func70 rfl rfl rfl rfl ?_
 refine r1 <| sT 2 0 1 rfl <| e1 8 rfl <| keep [0] rfl <| r1 <| sT 3 8 1 rfl <| sO 4 16 2 rfl <| sT 5 24 3 rfl ?_
 refine ask 5 rfl (fun hg1_5 => ?_) (fun hg1_5 => ?_)
 try simp only [cs, ne_eq] at hg1_5
 refine gT 2 true 5 4 rfl rfl <| sT 6 32 4 rfl <| gT 2 true 5 5 rfl rfl <| sO 7 40 5 rfl <| sT 8 48 6 rfl <| sT 2 56 7 rfl <| e1 64 rfl <| keep [2] rfl <| W_ret ?_
 exact out1 2 (SV.b (decide (-288230376151711744 ≤ n) && decide (n < 288230376151711744))) (π := []) (hout := []) Tryd.results70 rfl (by show SV.b _ = SV.b _; refine congrArg SV.b (Bool.eq_iff_iff.2 ?_); simp at *; try omega) rfl rfl trivial ⟨rfl, rfl⟩
 try simp only [cs, ne_eq] at hg1_5
 refine gF 2 true 5 6 4 rfl rfl <| gF 2 true 5 7 5 rfl rfl <| sT 8 48 6 rfl <| sT 2 56 7 rfl <| e1 64 rfl <| keep [2] rfl <| W_ret ?_
 exact out1 2 (SV.b (decide (-288230376151711744 ≤ n) && decide (n < 288230376151711744))) (π := []) (hout := []) Tryd.results70 rfl (by show SV.b _ = SV.b _; refine congrArg SV.b (Bool.eq_iff_iff.2 ?_); simp at *; try omega) rfl rfl trivial ⟨rfl, rfl⟩
theorem zigFold_any (n : Int) (h : isSm n) : Spec Tryd.prog GC 51 [SV.i n] [] (fun r ho => r = SV.tup [SV.i (zFold n), SV.i 0] ∧ ho = []) := by
 have h1 := h.1
 have h2 := h.2
 refine start 14 0 Tryd.func51 rfl rfl rfl rfl ?_
 refine r1 <| sT 2 0 1 rfl <| sT 3 8 2 rfl <| e1 16 rfl <| keep [0] rfl <| W_seq <| r1 <| sT 4 16 1 rfl ?_
 refine c1 (isSmall_any n) [] [] 5 24 2 rfl rfl rfl rfl rfl rfl rfl rfl Tryd.func70 rfl rfl rfl rfl trivial rfl rfl ?_
 refine sT 6 32 3 rfl <| e1 40 rfl <| keep [0, 6] rfl ?_
 refine q1 rfl (fun hc1 => ?_) (fun hc1 => ?_)
 exfalso; simp at hc1; omega
 try simp only [cs, ne_eq] at hc1
 refine W_skip <| tn <| W_seq <| r1 <| sT 7 40 1 rfl <| sO 8 48 2 rfl <| e1 56 rfl <| keep [0, 8] rfl ?_
 refine q1 rfl (fun hc3 => ?_) (fun hc3 => ?_)
 try simp only [cs, ne_eq] at hc3
 refine r1 <| sT 9 56 1 rfl <| sAO 10 64 2 rfl <| sAO 11 72 3 rfl <| sT 2 80 4 rfl <| sT 3 88 5 rfl <| e1 96 rfl <| keep [2, 3] rfl <| W_ret <| tr ?_
 exact out2 2 3 (SV.i (zFold n)) (SV.i 0) (π := []) (hout := []) Tryd.results51 rfl rfl (congrArg (fun x => SV.d (D.val (Value.int .i64 x))) (zFold_neg n (by omega))) rfl rfl rfl trivial ⟨rfl, rfl⟩
 try simp only [cs, ne_eq] at hc3
 refine W_skip <| tn <| r1 <| sT 12 56 1 rfl <| sAO 13 64 2 rfl <| sT 2 72 3 rfl <| sT 3 80 4 rfl <| e1 88 rfl <| keep [2, 3] rfl <| W_ret ?_
 exact out2 2 3 (SV.i (zFold n)) (SV.i 0) (π := []) (hout := []) Tryd.results51 rfl rfl (congrArg (fun x => SV.d (D.val (Value.int .i64 x))) (zFold_pos n (by omega))) rfl rfl rfl trivial ⟨rfl, rfl⟩
theorem nums_any (l : List Smp) (hin : SmpIn l) (hl : l.length ≤ 120) (hz : faultTo l l.length = 0) : Spec Tryd.prog GC 50 [smpV l] [] (fun r ho => r = .sl 0 0 (nums l).length ∧ ho = [some (.rows 3 1 (nums l).length (intF (nums l)))]) := by
 refine start 73 0 Tryd.func50 rfl rfl rfl rfl ?_
 refine r1 <| sT 2 0 1 rfl <| e1 8 rfl <| keep [0] rfl <| r1 <| sT 3 8 1 rfl <| e1 16 rfl <| keep [0, 3] rfl <| W_seq <| r1 <| sT 6 16 1 rfl <| sO 7 24 2 rfl <| sT 8 32 3 rfl <| e1 40 rfl <| keep [0, 3, 6, 7, 8] rfl <| W_block ?_
 refine ghostly 3 3 1 (intF []) rfl ?_
 refine loop (α := Nat × List Int) 1 (fun z => [(0, smpV l), (3, .sl 0 0 (z.2).length), (6, smpV l), (7, SV.i l.length), (8, SV.i (z.1))]) (fun z => [some (.rows 3 1 (z.2).length (intF (z.2)))]) (fun z => (z.1) ≤ l.length ∧ (z.2) = numsN l (z.1) ∧ (z.2).length = 2 * (z.1)) (fun z => l.length - (z.1)) (((0, []) : Nat × List Int)) [40] (fun _ => rfl) (show (0) ≤ l.length ∧ ([]) = numsN l (0) ∧ ([]).length = 2 * (0) from ⟨Nat.zero_le _, rfl, rfl⟩) rfl ⟨rfl, rfl, rfl, rfl, rfl, trivial⟩ ⟨rfl, trivial⟩ (fun z hx => ?_)
 obtain ⟨k, M⟩ := z
 show W _ _ _ ⟨tOf [(0, smpV l), (3, .sl 0 0 M.length), (6, smpV l), (7, SV.i l.length), (8, SV.i k)], hOf [some (.rows 3 1 M.length (intF M))], 1⟩
 have hx : k ≤ l.length ∧ M = numsN l k ∧ M.length = 2 * k := hx
 obtain ⟨hk, hM, hMl⟩ := hx
 refine r1 <| sO 9 1 1 rfl <| e1 9 rfl <| keep [0, 3, 6, 7, 8, 9] rfl <| W_seq ?_
 refine q1 rfl (fun hc3 => ?_) (fun hc3 => ?_)
 try simp only [cs, ne_eq] at hc3
 have hs := smp_at hz (show k < l.length by omega)
 obtain ⟨g1, g2⟩ := hs.1
 obtain ⟨g3, g4⟩ := hs.2.1
 have ho := (smp_at hz (show k - 1 < l.length by omega)).1
 have ho2 := (smp_at hz (show k - 1 < l.length by omega)).2.1
 have ho3 := (smp_at hz (show k - 2 < l.length by omega)).1
 have ho4 := (smp_at hz (show 0 < l.length by omega)).1
 have ho5 := (smp_at hz (show 0 < l.length by omega)).2.1
 unfold inB at ho ho2 ho3 ho4 ho5
 refine W_skip <| tn <| W_seq <| W_block <| r1 <| sT 10 9 1 rfl <| sO 11 17 2 rfl <| sO 12 25 3 rfl ?_
 refine val 12 (smpS (l.getD k default)) rfl (by first | rfl | (simp only [Nat.zero_add, Int.toNat_natCast]; rfl)) ?_
 refine sT 5 33 4 rfl <| sT 4 41 5 rfl <| s0O 49 6 rfl rfl rfl rfl rfl <| e1 57 rfl <| keep [0, 3, 4, 5, 6, 7, 8] rfl <| r1 <| sT 13 57 1 rfl <| e1 65 rfl <| keep [0, 3, 4, 5, 6, 7, 8, 13] rfl <| W_block <| r1 <| sO 44 65 1 rfl <| sT 43 73 2 rfl <| e1 81 rfl <| keep [0, 3, 4, 5, 6, 7, 8, 13, 43] rfl ?_
 refine q1 rfl (fun hc7 => ?_) (fun hc7 => ?_)
 try simp only [cs, ne_eq] at hc7
 refine r0 ?_
 refine sT 45 81 1 rfl <| sT 46 89 2 rfl <| sO 47 97 3 rfl <| sT 48 105 4 rfl <| sO 49 113 5 rfl <| sT 50 121 6 rfl ?_
 refine sV 51 129 7 rfl ⟨Nat.le_refl _, trivial, (by show (M.length + 2) * 8 ≤ 140737488355328; omega), (by simp only [maxLen]; omega)⟩ ?_
 refine sT 3 137 8 rfl <| e1 145 rfl <| bn <| bn <| tn ?_
 refine rowsc 129 (M ++ [cT (lstN l k) (l.getD k default), cV (lstN l k) (l.getD k default)]).length (intF (M ++ [cT (lstN l k) (l.getD k default), cV (lstN l k) (l.getD k default)])) rfl (by simp) (fun i c hi hc => cat_two (by rw [cT_eq, if_pos (by omega)]) (by rw [cV_eq, if_pos (by omega)]) i c hi hc) ?_
 refine cval 3 (.sl 129 0 (M ++ [cT (lstN l k) (l.getD k default), cV (lstN l k) (l.getD k default)]).length) rfl (by simp) ?_
 refine r0 ?_
 refine sAO 71 145 1 rfl <| sT 8 153 2 rfl <| e1 161 rfl <| tn ?_
 exact again (((k + 1, M ++ [cT (lstN l k) (l.getD k default), cV (lstN l k) (l.getD k default)]) : Nat × List Int)) [129] (show (k + 1) ≤ l.length ∧ (M ++ [cT (lstN l k) (l.getD k default), cV (lstN l k) (l.getD k default)]) = numsN l (k + 1) ∧ (M ++ [cT (lstN l k) (l.getD k default), cV (lstN l k) (l.getD k default)]).length = 2 * (k + 1) from ⟨by omega, by rw [numsN_succ, hM], by rw [List.length_append]; show M.length + 2 = _; omega⟩) (show l.length - (k + 1) < l.length - k from (by omega)) rfl ⟨rfl, rfl, rfl, rfl, rfl, trivial⟩ ⟨rfl, trivial⟩
 try simp only [cs, ne_eq] at hc7
 refine r1 <| sO 53 81 1 rfl <| sT 52 89 2 rfl <| e1 97 rfl <| keep [0, 3, 4, 5, 6, 7, 8, 52] rfl ?_
 refine q1 rfl (fun hc9 => ?_) (fun hc9 => ?_)
 try simp only [cs, ne_eq] at hc9
 refine rd0 rfl ?_
 refine dT 54 97 1 rfl <| dT 55 105 2 rfl <| dO 56 113 3 rfl <| dT 57 121 4 rfl <| dO 58 129 5 rfl <| dT 59 137 6 rfl <| dO 60 145 7 rfl ?_
 refine val 60 (SV.i (l.getD 0 default).t) rfl rfl ?_
 refine dAO 61 153 8 rfl <| dT 62 161 9 rfl <| dO 63 169 10 rfl <| dT 64 177 11 rfl <| dO 65 185 12 rfl <| dT 66 193 13 rfl <| dO 67 201 14 rfl ?_
 refine val 67 (SV.i (l.getD 0 default).v) rfl rfl ?_
 refine dAO 68 209 15 rfl <| dT 69 217 16 rfl ?_
 refine dV 70 225 17 rfl ⟨Nat.le_refl _, trivial, (by show (M.length + 2) * 8 ≤ 140737488355328; omega), (by simp only [maxLen]; omega)⟩ ?_
 refine dT 3 233 18 rfl <| de1 241 rfl (by kernel_rfl) <| bn <| bn <| tn ?_
 refine rowsc 225 (M ++ [cT (lstN l k) (l.getD k default), cV (lstN l k) (l.getD k default)]).length (intF (M ++ [cT (lstN l k) (l.getD k default), cV (lstN l k) (l.getD k default)])) rfl (by simp) (fun i c hi hc => cat_two (by rw [cT_eq, if_neg (by omega), if_pos (by omega)]) (by rw [cV_eq, if_neg (by omega), show k - 1 = 0 by omega]) i c hi hc) ?_
 refine cval 3 (.sl 225 0 (M ++ [cT (lstN l k) (l.getD k default), cV (lstN l k) (l.getD k default)]).length) rfl (by simp) ?_
 refine r0 ?_
 refine sAO 71 241 1 rfl <| sT 8 249 2 rfl <| e1 257 rfl <| tn ?_
 exact again (((k + 1, M ++ [cT (lstN l k) (l.getD k default), cV (lstN l k) (l.getD k default)]) : Nat × List Int)) [225] (show (k + 1) ≤ l.length ∧ (M ++ [cT (lstN l k) (l.getD k default), cV (lstN l k) (l.getD k default)]) = numsN l (k + 1) ∧ (M ++ [cT (lstN l k) (l.getD k default), cV (lstN l k) (l.getD k default)]).length = 2 * (k + 1) from ⟨by omega, by rw [numsN_succ, hM], by rw [List.length_append]; show M.length + 2 = _; omega⟩) (show l.length - (k + 1) < l.length - k from (by omega)) rfl ⟨rfl, rfl, rfl, rfl, rfl, trivial⟩ ⟨rfl, trivial⟩
 try simp only [cs, ne_eq] at hc9
 refine rd0 rfl ?_
 refine dT 14 97 1 rfl <| dT 15 105 2 rfl <| dO 16 113 3 rfl <| dT 17 121 4 rfl <| dT 18 129 5 rfl <| dAO 19 137 6 rfl <| dO 20 145 7 rfl <| dT 21 153 8 rfl <| dO 22 161 9 rfl ?_
 refine val 22 (SV.i (l.getD (k - 1) default).t) rfl (by rw [show ((k : Int) - 1).toNat = k - 1 by omega]) ?_
 refine dAO 23 169 10 rfl <| dAO 24 177 11 rfl <| dT 25 185 12 rfl <| dT 26 193 13 rfl <| dAO 27 201 14 rfl <| dO 28 209 15 rfl <| dT 29 217 16 rfl <| dO 30 225 17 rfl ?_
 refine val 30 (SV.i (l.getD (k - 2) default).t) rfl (by rw [show ((k : Int) - 2).toNat = k - 2 by omega]) ?_
 refine dAO 31 233 18 rfl <| dT 32 241 19 rfl <| dO 33 249 20 rfl <| dT 34 257 21 rfl <| dT 35 265 22 rfl <| dAO 36 273 23 rfl <| dO 37 281 24 rfl <| dT 38 289 25 rfl <| dO 39 297 26 rfl ?_
 refine val 39 (SV.i (l.getD (k - 1) default).v) rfl (by rw [show ((k : Int) - 1).toNat = k - 1 by omega]) ?_
 refine dAO 40 305 27 rfl <| dT 41 313 28 rfl ?_
 refine dV 42 321 29 rfl ⟨Nat.le_refl _, trivial, (by show (M.length + 2) * 8 ≤ 140737488355328; omega), (by simp only [maxLen]; omega)⟩ ?_
 refine dT 3 329 30 rfl <| de1 337 rfl (by kernel_rfl) <| bn <| bn <| tn ?_
 refine rowsc 321 (M ++ [cT (lstN l k) (l.getD k default), cV (lstN l k) (l.getD k default)]).length (intF (M ++ [cT (lstN l k) (l.getD k default), cV (lstN l k) (l.getD k default)])) rfl (by simp) (fun i c hi hc => cat_two (by rw [cT_eq, if_neg (by omega), if_neg (by omega)]) (by rw [cV_eq, if_neg (by omega)]) i c hi hc) ?_
 refine cval 3 (.sl 321 0 (M ++ [cT (lstN l k) (l.getD k default), cV (lstN l k) (l.getD k default)]).length) rfl (by simp) ?_
 refine r0 ?_
 refine sAO 71 337 1 rfl <| sT 8 345 2 rfl <| e1 353 rfl <| tn ?_
 exact again (((k + 1, M ++ [cT (lstN l k) (l.getD k default), cV (lstN l k) (l.getD k default)]) : Nat × List Int)) [321] (show (k + 1) ≤ l.length ∧ (M ++ [cT (lstN l k) (l.getD k default), cV (lstN l k) (l.getD k default)]) = numsN l (k + 1) ∧ (M ++ [cT (lstN l k) (l.getD k default), cV (lstN l k) (l.getD k default)]).length = 2 * (k + 1) from ⟨by omega, by rw [numsN_succ, hM], by rw [List.length_append]; show M.length + 2 = _; omega⟩) (show l.length - (k + 1) < l.length - k from (by omega)) rfl ⟨rfl, rfl, rfl, rfl, rfl, trivial⟩ ⟨rfl, trivial⟩
 try simp only [cs, ne_eq] at hc3
 refine W_exit <| tx <| tx <| bx <| tn <| r1 <| sT 72 9 1 rfl <| sT 2 17 2 rfl <| e1 25 rfl <| keep [2] rfl <| W_ret ?_
 obtain rfl : M = nums l := (by rw [hM, show k = l.length by omega]; rfl)
 exact out1 2 (.sl 0 0 (nums l).length) (π := [0]) (hout := [some (.rows 3 1 (nums l).length (intF (nums l)))]) Tryd.results50 rfl rfl rfl rfl ⟨rfl, trivial⟩ ⟨rfl, rfl⟩
theorem byteList_any (L : List Int) (hL : AllBits L) (hl : L.length ≤ 1000000) : Spec Tryd.prog GC 53 [intV L] [] (fun r ho => r = .sl 0 0 (pack L).length ∧ ho = [some (.rows 5 1 (pack L).length (u8F (pack L)))]) := by
 refine start 33 0 Tryd.func53 rfl rfl rfl rfl ?_
 refine r1 <| sT 2 0 1 rfl <| e1 8 rfl <| keep [0] rfl <| r1 <| sT 3 8 1 rfl <| e1 16 rfl <| keep [0, 3] rfl <| W_seq <| r1 <| sT 6 16 1 rfl <| sO 7 24 2 rfl <| sT 8 32 3 rfl <| e1 40 rfl <| keep [3, 6, 7, 8] rfl <| W_block ?_
 refine ghostly 3 5 1 (u8F []) rfl ?_
 refine loop (α := Nat × List Int) 1 (fun z => [(3, .sl 0 0 (pack (z.2)).length), (6, intV L), (7, SV.i L.length), (8, SV.i (z.1))]) (fun z => [some (.rows 5 1 (pack (z.2)).length (u8F (pack (z.2))))]) (fun z => (z.1) ≤ L.length ∧ (z.2) = L.take (z.1)) (fun z => L.length - (z.1)) (((0, []) : Nat × List Int)) [40] (fun _ => rfl) (show (0) ≤ L.length ∧ ([]) = L.take (0) from ⟨Nat.zero_le _, by simp⟩) rfl ⟨rfl, rfl, rfl, rfl, trivial⟩ ⟨rfl, trivial⟩ (fun z hx => ?_)
 obtain ⟨k, M⟩ := z
 show W _ _ _ ⟨tOf [(3, .sl 0 0 (pack M).length), (6, intV L), (7, SV.i L.length), (8, SV.i k)], hOf [some (.rows 5 1 (pack M).length (u8F (pack M)))], 1⟩
 have hx : k ≤ L.length ∧ M = L.take k := hx
 obtain ⟨hk, hM⟩ := hx
 have hA : AllBits M := (by rw [hM]; exact hL.take k)
 have hMk : M.length = k := (by rw [hM, List.length_take]; omega)
 have hpl : (pack M).length ≤ 200000 := (by rw [pack_length]; omega)
 have hrl := packRoom_length M
 have hbit := hL.getD k
 refine r1 <| sO 9 1 1 rfl <| e1 9 rfl <| keep [3, 6, 7, 8, 9] rfl <| W_seq ?_
 refine q1 rfl (fun hc3 => ?_) (fun hc3 => ?_)
 try simp only [cs, ne_eq] at hc3
 refine W_skip <| tn <| W_seq <| W_block <| r1 <| sT 10 9 1 rfl <| sO 11 17 2 rfl <| sO 12 25 3 rfl ?_
 refine val 12 (SV.i (L.getD k 0)) rfl (by first | rfl | (simp only [Nat.zero_add, Int.toNat_natCast]; rfl)) ?_
 refine sT 4 33 4 rfl <| sT 5 41 5 rfl <| e1 49 rfl <| keep [3, 4, 5, 6, 7, 8] rfl <| W_seq <| r1 <| sT 13 49 1 rfl ?_
 refine sD 14 57 2 rfl rfl rfl rfl rfl rfl rfl rfl rfl (by omega) ?_
 refine sO 15 65 3 rfl <| e1 73 rfl <| keep [3, 4, 5, 6, 7, 8, 15] rfl ?_
 refine q1 rfl (fun hc5 => ?_) (fun hc5 => ?_)
 try simp only [cs, ne_eq] at hc5
 refine r0 ?_
 refine sT 16 73 1 rfl <| sT 17 81 2 rfl ?_
 refine sV 18 89 3 rfl ⟨Nat.le_refl _, trivial, (by show ((pack M).length + 1) * 1 ≤ 140737488355328; omega), (by simp only [maxLen]; omega)⟩ ?_
 refine sT 3 97 4 rfl <| e1 105 rfl <| tn ?_
 refine rowsc 89 (packRoom M).length (u8F (packRoom M)) rfl (by rw [hrl, pack_length]; omega) (fun i c hi hc => room_cat (by omega) i c hi hc) ?_
 refine cval 3 (.sl 89 0 (packRoom M).length) rfl (by rw [show (packRoom M).length = (pack M).length + 1 from (by rw [hrl, pack_length]; omega)]) ?_
 refine r1 <| sT 19 105 1 rfl <| sO 20 113 2 rfl <| e1 121 rfl <| keep [3, 4, 6, 7, 8, 20] rfl ?_
 refine q1 rfl (fun hc7 => ?_) (fun hc7 => ?_)
 try simp only [cs, ne_eq] at hc7
 have hb1 : L.getD k 0 = 1 := hc7
 refine rd0 rfl ?_
 refine dT 21 121 1 rfl <| dT 22 129 2 rfl ?_
 refine dD 23 137 3 rfl rfl rfl rfl rfl rfl rfl rfl rfl (by omega) ?_
 refine dO 24 145 4 rfl ?_
 refine val 24 (.ptr 89 (M.length / 8) 0) rfl (by rw [show ((k : Int) / 8).toNat = M.length / 8 by omega, Nat.zero_add]) ?_
 refine dO 25 153 5 rfl ?_
 refine val 25 (.d (.val (.int .u8 (packByte M (M.length / 8))))) rfl (by rw [room_get M _ (by omega)]) ?_
 refine dT 26 161 6 rfl ?_
 refine dD 27 169 7 rfl rfl rfl rfl rfl rfl rfl rfl rfl (by omega) ?_
 refine dO 28 177 8 rfl ?_
 refine val 28 (.d (.val (.int .u8 (2 ^ (7 - M.length % 8))))) rfl (congrArg (fun x => SV.d (D.val (Value.int .u8 x))) (shr128 (by omega) (by omega))) ?_
 refine dO 29 185 9 rfl ?_
 refine val 29 (.d (.val (.int .u8 (packByte M (M.length / 8) + 1 * 2 ^ (7 - M.length % 8))))) rfl (congrArg (fun x => SV.d (D.val (Value.int .u8 x))) (add_bit hA)) ?_
 refine dO 30 193 10 rfl ?_
 refine val 30 (.ptr 89 (M.length / 8) 0) rfl (by rw [show ((k : Int) / 8).toNat = M.length / 8 by omega, Nat.zero_add]) ?_
 refine d0 201 11 rfl rfl rfl rfl rfl (by omega) ?_
 refine de1 209 rfl (by kernel_rfl) <| bn <| tn ?_
 refine rowsc 89 (pack (M ++ [1])).length (u8F (pack (M ++ [1]))) rfl (room_len _) (fun i c hi hc => room_set hA 1 _ rfl i c hi hc) ?_
 refine cval 3 (.sl 89 0 (pack (M ++ [1])).length) rfl (by rw [← room_len]) ?_
 refine r0 ?_
 refine sAO 31 209 1 rfl <| sT 8 217 2 rfl <| e1 225 rfl <| tn ?_
 exact again (((k + 1, M ++ [1]) : Nat × List Int)) [89] (show (k + 1) ≤ L.length ∧ (M ++ [1]) = L.take (k + 1) from ⟨by omega, by rw [hM, bit_take L k (by omega), hb1]⟩) (show L.length - (k + 1) < L.length - k from (by omega)) rfl ⟨rfl, rfl, rfl, rfl, trivial⟩ ⟨rfl, trivial⟩
 try simp only [cs, ne_eq] at hc7
 have hb0 : L.getD k 0 = 0 := (by rcases hbit with h | h; exact h; exact absurd h hc7)
 refine W_skip <| bn <| tn ?_
 refine rowsc 89 (pack (M ++ [0])).length (u8F (pack (M ++ [0]))) rfl (room_len _) (fun i c hi hc => by rw [pack_zero M hA]) ?_
 refine cval 3 (.sl 89 0 (pack (M ++ [0])).length) rfl (by rw [← room_len]) ?_
 refine r0 ?_
 refine sAO 31 121 1 rfl <| sT 8 129 2 rfl <| e1 137 rfl <| tn ?_
 exact again (((k + 1, M ++ [0]) : Nat × List Int)) [89] (show (k + 1) ≤ L.length ∧ (M ++ [0]) = L.take (k + 1) from ⟨by omega, by rw [hM, bit_take L k (by omega), hb0]⟩) (show L.length - (k + 1) < L.length - k from (by omega)) rfl ⟨rfl, rfl, rfl, rfl, trivial⟩ ⟨rfl, trivial⟩
 try simp only [cs, ne_eq] at hc5
 refine W_skip <| tn ?_
 refine rowsc 0 (packRoom M).length (u8F (packRoom M)) rfl (by rw [room_same (by omega)]) (fun i c hi hc => by rw [room_same (by omega)]) ?_
 refine cval 3 (.sl 0 0 (packRoom M).length) rfl (by rw [room_same (by omega)]) ?_
 refine r1 <| sT 19 73 1 rfl <| sO 20 81 2 rfl <| e1 89 rfl <| keep [3, 4, 6, 7, 8, 20] rfl ?_
 refine q1 rfl (fun hc7 => ?_) (fun hc7 => ?_)
 try simp only [cs, ne_eq] at hc7
 have hb1 : L.getD k 0 = 1 := hc7
 refine rd0 rfl ?_
 refine dT 21 89 1 rfl <| dT 22 97 2 rfl ?_
 refine dD 23 105 3 rfl rfl rfl rfl rfl rfl rfl rfl rfl (by omega) ?_
 refine dO 24 113 4 rfl ?_
 refine val 24 (.ptr 0 (M.length / 8) 0) rfl (by rw [show ((k : Int) / 8).toNat = M.length / 8 by omega, Nat.zero_add]) ?_
 refine dO 25 121 5 rfl ?_
 refine val 25 (.d (.val (.int .u8 (packByte M (M.length / 8))))) rfl (by rw [room_get M _ (by omega)]) ?_
 refine dT 26 129 6 rfl ?_
 refine dD 27 137 7 rfl rfl rfl rfl rfl rfl rfl rfl rfl (by omega) ?_
 refine dO 28 145 8 rfl ?_
 refine val 28 (.d (.val (.int .u8 (2 ^ (7 - M.length % 8))))) rfl (congrArg (fun x => SV.d (D.val (Value.int .u8 x))) (shr128 (by omega) (by omega))) ?_
 refine dO 29 153 9 rfl ?_
 refine val 29 (.d (.val (.int .u8 (packByte M (M.length / 8) + 1 * 2 ^ (7 - M.length % 8))))) rfl (congrArg (fun x => SV.d (D.val (Value.int .u8 x))) (add_bit hA)) ?_
 refine dO 30 161 10 rfl ?_
 refine val 30 (.ptr 0 (M.length / 8) 0) rfl (by rw [show ((k : Int) / 8).toNat = M.length / 8 by omega, Nat.zero_add]) ?_
 refine d0 169 11 rfl rfl rfl rfl rfl (by omega) ?_
 refine de1 177 rfl (by kernel_rfl) <| bn <| tn ?_
 refine rowsc 0 (pack (M ++ [1])).length (u8F (pack (M ++ [1]))) rfl (room_len _) (fun i c hi hc => room_set hA 1 _ rfl i c hi hc) ?_
 refine cval 3 (.sl 0 0 (pack (M ++ [1])).length) rfl (by rw [← room_len]) ?_
 refine r0 ?_
 refine sAO 31 177 1 rfl <| sT 8 185 2 rfl <| e1 193 rfl <| tn ?_
 exact again (((k + 1, M ++ [1]) : Nat × List Int)) [0] (show (k + 1) ≤ L.length ∧ (M ++ [1]) = L.take (k + 1) from ⟨by omega, by rw [hM, bit_take L k (by omega), hb1]⟩) (show L.length - (k + 1) < L.length - k from (by omega)) rfl ⟨rfl, rfl, rfl, rfl, trivial⟩ ⟨rfl, trivial⟩
 try simp only [cs, ne_eq] at hc7
 have hb0 : L.getD k 0 = 0 := (by rcases hbit with h | h; exact h; exact absurd h hc7)
 refine W_skip <| bn <| tn ?_
 refine rowsc 0 (pack (M ++ [0])).length (u8F (pack (M ++ [0]))) rfl (room_len _) (fun i c hi hc => by rw [pack_zero M hA]) ?_
 refine cval 3 (.sl 0 0 (pack (M ++ [0])).length) rfl (by rw [← room_len]) ?_
 refine r0 ?_
 refine sAO 31 89 1 rfl <| sT 8 97 2 rfl <| e1 105 rfl <| tn ?_
 exact again (((k + 1, M ++ [0]) : Nat × List Int)) [0] (show (k + 1) ≤ L.length ∧ (M ++ [0]) = L.take (k + 1) from ⟨by omega, by rw [hM, bit_take L k (by omega), hb0]⟩) (show L.length - (k + 1) < L.length - k from (by omega)) rfl ⟨rfl, rfl, rfl, rfl, trivial⟩ ⟨rfl, trivial⟩
 try simp only [cs, ne_eq] at hc3
 refine W_exit <| tx <| tx <| bx <| tn <| r1 <| sT 32 9 1 rfl <| sT 2 17 2 rfl <| e1 25 rfl <| keep [2] rfl <| W_ret ?_
 obtain rfl : L = M := (by rw [hM, List.take_of_length_le (by omega)])
 exact out1 2 (.sl 0 0 (pack L).length) (π := [0]) (hout := [some (.rows 5 1 (pack L).length (u8F (pack L)))]) Tryd.results53 rfl rfl rfl rfl ⟨rfl, trivial⟩ ⟨rfl, rfl⟩
theorem encoded_ok (l : List Smp) (hin : SmpIn l) (hz : sfault l = 0) : Spec Tryd.prog GC 34 [smpV l] [] (fun r ho => r = SV.tup [.sl 0 0 (encB l).length, SV.i 0] ∧ ho = [some (.rows 5 1 (encB l).length (u8F (encB l)))]) := by
 have hl : l.length ≤ 120 := (by unfold sfault at hz; by_cases h : 120 < l.length; (rw [if_pos h] at hz; cases hz); omega)
 have hz2 : faultTo l l.length = 0 := (by unfold sfault at hz; rw [if_neg (by omega)] at hz; exact hz)
 have hnl : (nums l).length = 2 * l.length := numsN_len l _
 have hsm := nums_sm hz2 hl
 refine start 40 0 Tryd.func34 rfl rfl rfl rfl ?_
 refine r1 <| sT 2 0 1 rfl <| sT 3 8 2 rfl <| e1 16 rfl <| keep [0] rfl <| W_seq <| r1 <| sT 10 16 1 rfl ?_
 refine c1 (sfault_any l hin) [] [] 11 24 2 rfl rfl rfl rfl rfl rfl rfl rfl Tryd.func48 rfl rfl rfl rfl trivial rfl rfl ?_
 refine sT 4 32 3 rfl <| e1 40 rfl <| keep [0, 4] rfl <| r1 <| sT 12 40 1 rfl <| sO 13 48 2 rfl <| e1 56 rfl <| keep [0, 4, 13] rfl ?_
 refine q1 rfl (fun hc2 => ?_) (fun hc2 => ?_)
 exact absurd hz (by simpa using hc2)
 try simp only [cs, ne_eq] at hc2
 refine W_skip <| tn <| r1 <| sT 15 56 1 rfl <| sO 16 64 2 rfl <| sT 17 72 3 rfl ?_
 refine sLit 2 (fldF [(8, (l.length : Int))]) 18 80 4 rfl rfl rfl rfl rfl rfl rfl rfl rfl (by intro i c hi hc; obtain rfl : i = 0 := (by omega); rcases (show c = 0 ∨ c = 1 by omega) with rfl | rfl <;> rfl) ?_
 refine c1 (bits_any [(8, (l.length : Int))] (by simp) (fun i => by match i with | 0 => exact ⟨(by show (8 : Nat) ≤ 60; decide), (by show (0 : Int) ≤ l.length; omega), (by show (l.length : Int) ≤ _; omega)⟩ | i + 1 => exact ⟨(by simp), (by simp), (by simp)⟩)) [] [88] 19 88 5 rfl rfl rfl rfl rfl rfl rfl rfl Tryd.func49 rfl rfl rfl rfl trivial rfl rfl ?_
 refine sT 5 96 6 rfl <| e1 104 rfl <| keep [0, 5] rfl <| W_seq ?_
 refine rowsc 88 (refL l 0).length (intF (refL l 0)) rfl (by simp [flatF, refL]) (fun i c hi hc => by rw [show flatF [(8, (l.length : Int))] = refL l 0 from by simp [flatF, refL]]) ?_
 refine cval 5 (.sl 88 0 (refL l 0).length) rfl (by simp [flatF, refL]) ?_
 refine r1 <| sT 20 104 1 rfl ?_
 refine c1 (nums_any l hin hl hz2) [] [112] 21 112 2 rfl rfl rfl rfl rfl rfl rfl rfl Tryd.func50 rfl rfl rfl rfl trivial rfl rfl ?_
 refine sO 22 120 3 rfl <| sT 23 128 4 rfl <| e1 136 rfl <| keep [5, 21, 22, 23] rfl <| W_block ?_
 refine freeze 21 112 (nums l).length rfl rfl (Nat.le_refl _) ?_
 refine loop (α := Nat) 1 (fun q => [(5, .sl 0 0 (refL l (q)).length), (21, intV (nums l)), (22, SV.i (nums l).length), (23, SV.i (q))]) (fun q => [some (.rows 3 1 (refL l (q)).length (intF (refL l (q))))]) (fun q => (q) ≤ (nums l).length) (fun q => (nums l).length - (q)) (((0) : Nat)) [88] (fun _ => rfl) (show (0) ≤ (nums l).length from (Nat.zero_le _)) rfl ⟨rfl, rfl, rfl, rfl, trivial⟩ ⟨rfl, trivial⟩ (fun q hx => ?_)
 show W _ _ _ ⟨tOf [(5, .sl 0 0 (refL l q).length), (21, intV (nums l)), (22, SV.i (nums l).length), (23, SV.i q)], hOf [some (.rows 3 1 (refL l q).length (intF (refL l q)))], 1⟩
 have hx : q ≤ (nums l).length := hx
 have hrl := refL_len l q
 refine r1 <| sO 24 1 1 rfl <| e1 9 rfl <| keep [5, 21, 22, 23, 24] rfl <| W_seq ?_
 refine q1 rfl (fun hc6 => ?_) (fun hc6 => ?_)
 · skip
   try simp only [cs, ne_eq] at hc6
   have hn := hsm _ (getI_mem (show q < (nums l).length by omega))
   have hb := zFold_bd _ hn.1 hn.2
   have hzf := zf_ok hb.1 (by omega) (cls (zFold ((nums l).getD q 0))) (cls_lt _)
   have hzb := zbits_len ((nums l).getD q 0)
   have hfl : flatF (zf (cls (zFold ((nums l).getD q 0))) (zFold ((nums l).getD q 0))) = zbits ((nums l).getD q 0) := (by rw [zf_flat (fun h => by unfold cls at h; split at h; assumption; split at h; cases h; split at h; cases h; split at h <;> cases h)]; rfl)
   refine W_skip <| tn <| W_seq <| W_block <| r1 <| sO 25 9 1 rfl <| sO 26 17 2 rfl ?_
   refine val 26 (SV.i ((nums l).getD q 0)) rfl (by first | rfl | (simp only [Nat.zero_add, Int.toNat_natCast]; rfl)) ?_
   refine sT 7 25 3 rfl <| e1 33 rfl <| keep [5, 7, 21, 22, 23] rfl <| r1 <| sT 28 33 1 rfl ?_
   refine c1 (zigFold_any ((nums l).getD q 0) hn) [] [] 29 41 2 rfl rfl rfl rfl rfl rfl rfl rfl Tryd.func51 rfl rfl rfl rfl trivial rfl rfl ?_
   refine sT 27 49 3 rfl <| sT 30 57 4 rfl <| sT 31 65 5 rfl <| sT 8 73 6 rfl <| sT 9 81 7 rfl <| e1 89 rfl <| keep [5, 8, 21, 22, 23] rfl ?_
   refine r0 ?_
   refine sT 32 89 1 rfl <| sT 33 97 2 rfl ?_
   refine c1 (zf_any (zFold ((nums l).getD q 0)) hb.1) [] [] 34 105 3 rfl rfl rfl rfl rfl rfl rfl rfl Tryd.func52 rfl rfl rfl rfl trivial rfl rfl ?_
   refine c1 (bits_any (zf (cls (zFold ((nums l).getD q 0))) (zFold ((nums l).getD q 0))) (by omega) hzf.2) [] [113] 35 113 4 rfl rfl rfl rfl rfl rfl rfl rfl Tryd.func49 rfl rfl rfl rfl trivial rfl rfl ?_
   refine sV 36 121 5 rfl ⟨Nat.le_refl _, (by omega), (by rw [hfl]; show ((refL l q).length + (zbits ((nums l).getD q 0)).length) * 8 ≤ 140737488355328; omega), (by rw [hfl]; simp only [maxLen]; omega)⟩ ?_
   refine sT 5 129 6 rfl <| e1 137 rfl <| bn <| tn ?_
   refine rowsc 121 (refL l (q + 1)).length (intF (refL l (q + 1))) rfl (by rw [refL_succ (by omega), List.length_append, hfl]) (fun i c hi hc => by show catR (intF (refL l q)) (refL l q).length (intF (flatF (zf (cls (zFold ((nums l).getD q 0))) (zFold ((nums l).getD q 0))))) i c = _; rw [cat_int i c hi hc, refL_succ (by omega), hfl]) ?_
   refine cval 5 (.sl 121 0 (refL l (q + 1)).length) rfl (by rw [refL_succ (by omega), List.length_append, hfl]) ?_
   refine r0 ?_
   refine sAO 37 137 1 rfl <| sT 23 145 2 rfl <| e1 153 rfl <| tn ?_
   exact again ((q + 1 : Nat)) [121] (show (q + 1) ≤ (nums l).length from (by omega)) (show (nums l).length - (q + 1) < (nums l).length - q from (by omega)) rfl ⟨rfl, rfl, rfl, rfl, trivial⟩ ⟨rfl, trivial⟩
 try simp only [cs, ne_eq] at hc6
 refine W_exit <| tx <| tx <| bx <| tn ?_
 obtain rfl : q = (nums l).length := (by omega)
 refine freeze 5 0 (refL l (nums l).length).length rfl rfl (Nat.le_refl _) ?_
 refine r1 <| sT 38 9 1 rfl ?_
 refine c1 (byteList_any (refL l (nums l).length) (refL_bits l) (by omega)) [] [17] 39 17 2 rfl rfl rfl rfl rfl rfl rfl rfl Tryd.func53 rfl rfl rfl rfl trivial rfl rfl ?_
 refine sT 2 25 3 rfl <| sT 3 33 4 rfl <| e1 41 rfl <| keep [2, 3] rfl <| W_ret ?_
 exact out2 2 3 (.sl 0 0 (encB l).length) (SV.i 0) (π := [17]) (hout := [some (.rows 5 1 (encB l).length (u8F (encB l)))]) Tryd.results34 rfl rfl (by unfold encB; rw [← refL_all]; rfl) rfl rfl rfl ⟨(by unfold encB; rw [← refL_all]; rfl), trivial⟩ ⟨rfl, rfl⟩
end Go.Proofs.YtalhangpahffeaaDoor.Nice
namespace Go.Proofs.YtalhangpahffeaaDoor.Nice
open Go
set_option linter.unusedVariables false
set_option linter.unusedSimpArgs false
set_option maxRecDepth 100000
set_option maxHeartbeats 4000000
structure Roll where
 c : Int
 lo : Int
 hi : Int
 s : Int
 deriving DecidableEq
def rollS (r : Roll) : SV := .agg [SV.i r.c, SV.i r.lo, SV.i r.hi, SV.i r.s]
def joined (a b : Roll) : Roll := if a.c = 0 then b else if b.c = 0 then a else ⟨a.c + b.c, if b.lo < a.lo then b.lo else a.lo, if a.hi < b.hi then b.hi else a.hi, a.s + b.s⟩
def withR (a : Roll) (v : Int) : Roll := joined a ⟨1, v, v, v⟩
def stepR (r : Roll) (n : Nat) (v : Int) : Roll := ⟨r.c + 1, if n = 0 ∨ v < r.lo then v else r.lo, if n = 0 ∨ r.hi < v then v else r.hi, r.s + v⟩
def foldTo (l : List Int) : Nat → Roll
 | 0 => ⟨0, 0, 0, 0⟩
 | n + 1 => stepR (foldTo l n) n (l.getD n 0)
def rollBlk (r : Roll) : Blk := .cells 31 4 [SV.i r.c, SV.i r.lo, SV.i r.hi, SV.i r.s]
theorem blk_eq {c lo hi s : Int} {r : Roll} (h1 : c = r.c) (h2 : lo = r.lo) (h3 : hi = r.hi) (h4 : s = r.s) : Blk.cells 31 4 [SV.i c, SV.i lo, SV.i hi, SV.i s] = rollBlk r := by
 rw [h1, h2, h3, h4]; rfl
theorem fold_c (l : List Int) : ∀ n, (foldTo l n).c = n
 | 0 => rfl
 | n + 1 => by show (foldTo l n).c + 1 = _; rw [fold_c l n]; omega
theorem fold_with (l : List Int) (n : Nat) : foldTo l (n + 1) = withR (foldTo l n) (l.getD n 0) := by
 by_cases h : n = 0
 · subst h
   simp [foldTo, stepR, withR, joined]
 · have hj : withR (foldTo l n) (l.getD n 0) = ⟨(foldTo l n).c + 1, if l.getD n 0 < (foldTo l n).lo then l.getD n 0 else (foldTo l n).lo, if (foldTo l n).hi < l.getD n 0 then l.getD n 0 else (foldTo l n).hi, (foldTo l n).s + l.getD n 0⟩ := by
     unfold withR joined
     rw [if_neg (by rw [fold_c]; omega), if_neg (by show ¬ (1 : Int) = 0; decide)]
   rw [hj]
   show stepR _ _ _ = _
   unfold stepR
   simp only [h, false_or]
def inV (x : Int) : Prop := -36028797018963968 ≤ x ∧ x < 36028797018963968
theorem fold_s {l : List Int} (h : ∀ j, j < l.length → inV (l.getD j 0)) : ∀ n, n ≤ l.length → -(n * 36028797018963968) ≤ (foldTo l n).s ∧ (foldTo l n).s ≤ n * 36028797018963968
 | 0, _ => by simp [foldTo]
 | n + 1, hn => by
   have := fold_s h n (by omega)
   have := h n (by omega)
   unfold inV at this
   show _ ≤ (foldTo l n).s + l.getD n 0 ∧ (foldTo l n).s + l.getD n 0 ≤ _
   omega
def vals (l : List Smp) : List Int := l.map (·.v)
theorem vals_len (l : List Smp) : (vals l).length = l.length := by simp [vals]
theorem vals_get {l : List Smp} {k : Nat} (h : k < l.length) : (vals l).getD k 0 = (l.getD k default).v := by simp [vals, List.getD, h]
theorem sf_parts {l : List Smp} (hz : sfault l = 0) : l.length ≤ 120 ∧ faultTo l l.length = 0 := by
 unfold sfault at hz
 by_cases h : 120 < l.length
 · rw [if_pos h] at hz; cases hz
 · rw [if_neg h] at hz; exact ⟨by omega, hz⟩
theorem joined_any (a b : Roll) (hc : inRange (a.c + b.c)) (hs : inRange (a.s + b.s)) : Spec Tryd.prog GC 47 [rollS a, rollS b] [] (fun r ho => r = rollS (joined a b) ∧ ho = []) := by
 refine start 36 0 Tryd.func47 rfl rfl rfl rfl ?_
 refine r1 <| sT 2 0 1 rfl <| sT 3 8 2 rfl <| sT 4 16 3 rfl <| e1 24 rfl <| keep [2, 3, 4] rfl <| W_seq <| W_block <| r1 <| sT 6 24 1 rfl <| sO 7 32 2 rfl <| sO 8 40 3 rfl <| sT 5 48 4 rfl <| e1 56 rfl <| keep [2, 3, 4, 5] rfl ?_
 refine q1 rfl (fun hc1 => ?_) (fun hc1 => ?_)
 try simp only [cs, ne_eq] at hc1
 refine r1 <| sO 9 56 1 rfl <| s0O 64 2 rfl rfl rfl rfl rfl <| e1 72 rfl <| keep [4] rfl <| W_ret <| br <| tr ?_
 exact outN (rollS (joined a b)) (π := []) (hout := []) Tryd.results47 rfl (by trivial) (by unfold joined; rw [if_pos hc1]; rfl) rfl rfl trivial ⟨rfl, rfl⟩
 try simp only [cs, ne_eq] at hc1
 refine r1 <| sT 11 56 1 rfl <| sO 12 64 2 rfl <| sO 13 72 3 rfl <| sT 10 80 4 rfl <| e1 88 rfl <| keep [2, 3, 4, 10] rfl ?_
 refine q1 rfl (fun hc3 => ?_) (fun hc3 => ?_)
 try simp only [cs, ne_eq] at hc3
 refine r1 <| sO 14 88 1 rfl <| s0O 96 2 rfl rfl rfl rfl rfl <| e1 104 rfl <| keep [4] rfl <| W_ret <| br <| tr ?_
 exact outN (rollS (joined a b)) (π := []) (hout := []) Tryd.results47 rfl (by trivial) (by unfold joined; rw [if_neg hc1, if_pos hc3]; rfl) rfl rfl trivial ⟨rfl, rfl⟩
 try simp only [cs, ne_eq] at hc3
 refine W_skip <| bn <| tn <| r1 <| sT 15 88 1 rfl <| sO 16 96 2 rfl <| sT 17 104 3 rfl <| sO 18 112 4 rfl ?_
 refine sA 19 120 5 rfl rfl rfl rfl rfl rfl rfl rfl rfl hc ?_
 refine sT 20 128 6 rfl <| sO 21 136 7 rfl <| sT 22 144 8 rfl <| sO 23 152 9 rfl <| sT 24 160 10 rfl <| sT 25 168 11 rfl <| sO 26 176 12 rfl <| sT 27 184 13 rfl <| sO 28 192 14 rfl <| sT 29 200 15 rfl <| sT 30 208 16 rfl <| sO 31 216 17 rfl <| sT 32 224 18 rfl <| sO 33 232 19 rfl ?_
 refine sA 34 240 20 rfl rfl rfl rfl rfl rfl rfl rfl rfl hs ?_
 refine sT 35 248 21 rfl <| s0O 256 22 rfl rfl rfl rfl rfl <| e1 264 rfl <| keep [4] rfl <| W_ret ?_
 exact outN (rollS (joined a b)) (π := []) (hout := []) Tryd.results47 rfl (by trivial) (by unfold joined; rw [if_neg hc1, if_neg hc3]; rfl) rfl rfl trivial ⟨rfl, rfl⟩
theorem with_any (a : Roll) (v : Int) (hc : inRange (a.c + 1)) (hs : inRange (a.s + v)) : Spec Tryd.prog GC 33 [rollS a, SV.i v] [] (fun r ho => r = rollS (withR a v) ∧ ho = []) := by
 refine start 11 0 Tryd.func33 rfl rfl rfl rfl ?_
 refine r1 <| sT 2 0 1 rfl <| sT 4 8 2 rfl <| e1 16 rfl <| keep [1, 2, 4] rfl <| r1 <| sO 5 16 1 rfl <| sT 6 24 2 rfl <| sT 7 32 3 rfl <| sT 8 40 4 rfl <| sT 9 48 5 rfl ?_
 refine c1 (joined_any a ⟨1, v, v, v⟩ hc hs) [] [] 10 56 6 rfl rfl rfl rfl rfl rfl rfl rfl Tryd.func47 rfl rfl rfl rfl trivial rfl rfl ?_
 refine s0O 64 7 rfl rfl rfl rfl rfl <| e1 72 rfl <| keep [4] rfl <| W_ret ?_
 exact outN (rollS (withR a v)) (π := []) (hout := []) Tryd.results33 rfl (by trivial) rfl rfl rfl trivial ⟨rfl, rfl⟩
theorem refOf_any (l : List Int) (hl : l.length ≤ 1000000) (hs : ∀ n, n ≤ l.length → inRange (foldTo l n).s) : Spec Tryd.prog GC 21 [intV l] [] (fun r ho => r = rollS (foldTo l l.length) ∧ ho = []) := by
 refine start 44 0 Tryd.func21 rfl rfl rfl rfl ?_
 refine r1 <| sT 2 0 1 rfl <| e1 8 rfl <| keep [0, 2] rfl <| r1 <| sT 3 8 1 rfl <| e1 16 rfl <| keep [0, 2, 3] rfl <| W_seq <| r1 <| sT 6 16 1 rfl <| sO 7 24 2 rfl <| sT 8 32 3 rfl <| e1 40 rfl <| keep [2, 3, 6, 7, 8] rfl <| W_block ?_
 refine loop (α := Nat) 2 (fun n => [(2, .ptr 0 0 0), (3, .ptr 1 0 0), (6, intV l), (7, SV.i l.length), (8, SV.i n)]) (fun n => [some (rollBlk ⟨0, 0, 0, 0⟩), some (rollBlk (foldTo l n))]) (fun n => n ≤ l.length) (fun n => l.length - n) (0) [0, 8] (fun _ => rfl) (Nat.zero_le _) rfl ⟨rfl, rfl, rfl, rfl, rfl, trivial⟩ ⟨rfl, rfl, trivial⟩ (fun n hx => ?_)
 refine r1 <| sO 9 2 1 rfl <| e1 10 rfl <| keep [2, 3, 6, 7, 8, 9] rfl <| W_seq ?_
 refine q1 rfl (fun hc3 => ?_) (fun hc3 => ?_)
 · skip
   try simp only [cs, ne_eq] at hc3
   refine W_skip <| tn <| W_seq <| W_block <| r1 <| sT 10 10 1 rfl <| sO 11 18 2 rfl <| sO 12 26 3 rfl <| sT 4 34 4 rfl <| sT 5 42 5 rfl <| e1 50 rfl <| keep [2, 3, 4, 5, 6, 7, 8] rfl <| W_seq <| r1 <| sT 13 50 1 rfl <| sO 14 58 2 rfl ?_
   refine sT 15 66 3 rfl ?_
   refine ask 15 rfl (fun hg5_15 => ?_) (fun hg5_15 => ?_)
   · skip
     try simp only [cs, ne_eq] at hg5_15
     refine gF 2 false 15 16 4 rfl rfl <| gF 2 false 15 17 5 rfl rfl <| gF 2 false 15 18 6 rfl rfl <| gF 2 false 15 19 7 rfl rfl <| sT 20 106 8 rfl <| e1 114 rfl <| keep [2, 3, 4, 5, 6, 7, 8, 20] rfl ?_
     refine q1 rfl (fun hc5 => ?_) (fun hc5 => ?_)
     · skip
       try simp only [cs, ne_eq] at hc5
       refine r0 ?_
       refine sT 21 114 1 rfl <| sT 22 122 2 rfl <| s0O 130 3 rfl rfl rfl rfl rfl <| e1 138 rfl <| tn <| W_seq <| r1 <| sT 23 138 1 rfl <| sO 24 146 2 rfl <| sT 25 154 3 rfl ?_
       refine ask 25 rfl (fun hg7_25 => ?_) (fun hg7_25 => ?_)
       · skip
         try simp only [cs, ne_eq] at hg7_25
         refine gF 2 false 25 26 4 rfl rfl <| gF 2 false 25 27 5 rfl rfl <| gF 2 false 25 28 6 rfl rfl <| gF 2 false 25 29 7 rfl rfl <| sT 30 194 8 rfl <| e1 202 rfl <| keep [2, 3, 5, 6, 7, 8, 30] rfl ?_
         refine q1 rfl (fun hc7 => ?_) (fun hc7 => ?_)
         · skip
           try simp only [cs, ne_eq] at hc7
           refine r0 ?_
           refine sT 31 202 1 rfl <| sT 32 210 2 rfl <| s0O 218 3 rfl rfl rfl rfl rfl <| e1 226 rfl <| tn <| r1 <| sT 33 226 1 rfl <| sO 34 234 2 rfl <| sT 35 242 3 rfl ?_
           refine sA 36 250 4 rfl rfl rfl rfl rfl rfl rfl rfl rfl (by have := hs (n + 1) (by omega); exact this) ?_
           refine sT 37 258 5 rfl <| s0O 266 6 rfl rfl rfl rfl rfl <| e1 274 rfl <| keep [2, 3, 6, 7, 8] rfl ?_
           refine r0 ?_
           refine sT 38 274 1 rfl <| sO 39 282 2 rfl ?_
           refine sA 40 290 3 rfl rfl rfl rfl rfl rfl rfl rfl rfl (by have := fold_c l n; unfold inRange; omega) ?_
           refine sT 41 298 4 rfl <| s0O 306 5 rfl rfl rfl rfl rfl <| e1 314 rfl <| bn <| tn ?_
           refine chval 1 (rollBlk (foldTo l (n + 1))) rfl (blk_eq rfl (by simp only [Int.toNat_natCast] at *; simp only [foldTo, stepR]; split <;> omega) (by simp only [Int.toNat_natCast] at *; simp only [foldTo, stepR]; split <;> omega) rfl) ?_
           refine r0 ?_
           refine sAO 42 314 1 rfl <| sT 8 322 2 rfl <| e1 330 rfl <| tn ?_
           exact again (n + 1) [0, 1] (by omega) (by omega) rfl ⟨rfl, rfl, rfl, rfl, rfl, trivial⟩ ⟨rfl, rfl, trivial⟩
         exact absurd hc7 (by decide)
       try simp only [cs, ne_eq] at hg7_25
       refine gT 2 false 25 4 rfl rfl <| sT 26 162 4 rfl <| gT 2 false 25 5 rfl rfl <| sT 27 170 5 rfl <| gT 2 false 25 6 rfl rfl <| sO 28 178 6 rfl <| gT 2 false 25 7 rfl rfl <| sO 29 186 7 rfl <| sT 30 194 8 rfl <| e1 202 rfl <| keep [2, 3, 5, 6, 7, 8, 30] rfl ?_
       refine q1 rfl (fun hc7 => ?_) (fun hc7 => ?_)
       · skip
         try simp only [cs, ne_eq] at hc7
         refine r0 ?_
         refine sT 31 202 1 rfl <| sT 32 210 2 rfl <| s0O 218 3 rfl rfl rfl rfl rfl <| e1 226 rfl <| tn <| r1 <| sT 33 226 1 rfl <| sO 34 234 2 rfl <| sT 35 242 3 rfl ?_
         refine sA 36 250 4 rfl rfl rfl rfl rfl rfl rfl rfl rfl (by have := hs (n + 1) (by omega); exact this) ?_
         refine sT 37 258 5 rfl <| s0O 266 6 rfl rfl rfl rfl rfl <| e1 274 rfl <| keep [2, 3, 6, 7, 8] rfl ?_
         refine r0 ?_
         refine sT 38 274 1 rfl <| sO 39 282 2 rfl ?_
         refine sA 40 290 3 rfl rfl rfl rfl rfl rfl rfl rfl rfl (by have := fold_c l n; unfold inRange; omega) ?_
         refine sT 41 298 4 rfl <| s0O 306 5 rfl rfl rfl rfl rfl <| e1 314 rfl <| bn <| tn ?_
         refine chval 1 (rollBlk (foldTo l (n + 1))) rfl (blk_eq rfl (by simp only [Int.toNat_natCast] at *; simp only [foldTo, stepR]; split <;> omega) (by simp only [Int.toNat_natCast] at *; simp only [foldTo, stepR]; split <;> omega) rfl) ?_
         refine r0 ?_
         refine sAO 42 314 1 rfl <| sT 8 322 2 rfl <| e1 330 rfl <| tn ?_
         exact again (n + 1) [0, 1] (by omega) (by omega) rfl ⟨rfl, rfl, rfl, rfl, rfl, trivial⟩ ⟨rfl, rfl, trivial⟩
       try simp only [cs, ne_eq] at hc7
       refine W_skip <| tn <| r1 <| sT 33 202 1 rfl <| sO 34 210 2 rfl <| sT 35 218 3 rfl ?_
       refine sA 36 226 4 rfl rfl rfl rfl rfl rfl rfl rfl rfl (by have := hs (n + 1) (by omega); exact this) ?_
       refine sT 37 234 5 rfl <| s0O 242 6 rfl rfl rfl rfl rfl <| e1 250 rfl <| keep [2, 3, 6, 7, 8] rfl ?_
       refine r0 ?_
       refine sT 38 250 1 rfl <| sO 39 258 2 rfl ?_
       refine sA 40 266 3 rfl rfl rfl rfl rfl rfl rfl rfl rfl (by have := fold_c l n; unfold inRange; omega) ?_
       refine sT 41 274 4 rfl <| s0O 282 5 rfl rfl rfl rfl rfl <| e1 290 rfl <| bn <| tn ?_
       refine chval 1 (rollBlk (foldTo l (n + 1))) rfl (blk_eq rfl (by simp only [Int.toNat_natCast] at *; simp only [foldTo, stepR]; split <;> omega) (by simp only [Int.toNat_natCast] at *; simp only [foldTo, stepR]; split <;> omega) rfl) ?_
       refine r0 ?_
       refine sAO 42 290 1 rfl <| sT 8 298 2 rfl <| e1 306 rfl <| tn ?_
       exact again (n + 1) [0, 1] (by omega) (by omega) rfl ⟨rfl, rfl, rfl, rfl, rfl, trivial⟩ ⟨rfl, rfl, trivial⟩
     exact absurd hc5 (by decide)
   try simp only [cs, ne_eq] at hg5_15
   refine gT 2 false 15 4 rfl rfl <| sT 16 74 4 rfl <| gT 2 false 15 5 rfl rfl <| sT 17 82 5 rfl <| gT 2 false 15 6 rfl rfl <| sO 18 90 6 rfl <| gT 2 false 15 7 rfl rfl <| sO 19 98 7 rfl <| sT 20 106 8 rfl <| e1 114 rfl <| keep [2, 3, 4, 5, 6, 7, 8, 20] rfl ?_
   refine q1 rfl (fun hc5 => ?_) (fun hc5 => ?_)
   · skip
     try simp only [cs, ne_eq] at hc5
     refine r0 ?_
     refine sT 21 114 1 rfl <| sT 22 122 2 rfl <| s0O 130 3 rfl rfl rfl rfl rfl <| e1 138 rfl <| tn <| W_seq <| r1 <| sT 23 138 1 rfl <| sO 24 146 2 rfl <| sT 25 154 3 rfl ?_
     refine ask 25 rfl (fun hg7_25 => ?_) (fun hg7_25 => ?_)
     · skip
       try simp only [cs, ne_eq] at hg7_25
       refine gF 2 false 25 26 4 rfl rfl <| gF 2 false 25 27 5 rfl rfl <| gF 2 false 25 28 6 rfl rfl <| gF 2 false 25 29 7 rfl rfl <| sT 30 194 8 rfl <| e1 202 rfl <| keep [2, 3, 5, 6, 7, 8, 30] rfl ?_
       refine q1 rfl (fun hc7 => ?_) (fun hc7 => ?_)
       · skip
         try simp only [cs, ne_eq] at hc7
         refine r0 ?_
         refine sT 31 202 1 rfl <| sT 32 210 2 rfl <| s0O 218 3 rfl rfl rfl rfl rfl <| e1 226 rfl <| tn <| r1 <| sT 33 226 1 rfl <| sO 34 234 2 rfl <| sT 35 242 3 rfl ?_
         refine sA 36 250 4 rfl rfl rfl rfl rfl rfl rfl rfl rfl (by have := hs (n + 1) (by omega); exact this) ?_
         refine sT 37 258 5 rfl <| s0O 266 6 rfl rfl rfl rfl rfl <| e1 274 rfl <| keep [2, 3, 6, 7, 8] rfl ?_
         refine r0 ?_
         refine sT 38 274 1 rfl <| sO 39 282 2 rfl ?_
         refine sA 40 290 3 rfl rfl rfl rfl rfl rfl rfl rfl rfl (by have := fold_c l n; unfold inRange; omega) ?_
         refine sT 41 298 4 rfl <| s0O 306 5 rfl rfl rfl rfl rfl <| e1 314 rfl <| bn <| tn ?_
         refine chval 1 (rollBlk (foldTo l (n + 1))) rfl (blk_eq rfl (by simp only [Int.toNat_natCast] at *; simp only [foldTo, stepR]; split <;> omega) (by simp only [Int.toNat_natCast] at *; simp only [foldTo, stepR]; split <;> omega) rfl) ?_
         refine r0 ?_
         refine sAO 42 314 1 rfl <| sT 8 322 2 rfl <| e1 330 rfl <| tn ?_
         exact again (n + 1) [0, 1] (by omega) (by omega) rfl ⟨rfl, rfl, rfl, rfl, rfl, trivial⟩ ⟨rfl, rfl, trivial⟩
       exact absurd hc7 (by decide)
     try simp only [cs, ne_eq] at hg7_25
     refine gT 2 false 25 4 rfl rfl <| sT 26 162 4 rfl <| gT 2 false 25 5 rfl rfl <| sT 27 170 5 rfl <| gT 2 false 25 6 rfl rfl <| sO 28 178 6 rfl <| gT 2 false 25 7 rfl rfl <| sO 29 186 7 rfl <| sT 30 194 8 rfl <| e1 202 rfl <| keep [2, 3, 5, 6, 7, 8, 30] rfl ?_
     refine q1 rfl (fun hc7 => ?_) (fun hc7 => ?_)
     · skip
       try simp only [cs, ne_eq] at hc7
       refine r0 ?_
       refine sT 31 202 1 rfl <| sT 32 210 2 rfl <| s0O 218 3 rfl rfl rfl rfl rfl <| e1 226 rfl <| tn <| r1 <| sT 33 226 1 rfl <| sO 34 234 2 rfl <| sT 35 242 3 rfl ?_
       refine sA 36 250 4 rfl rfl rfl rfl rfl rfl rfl rfl rfl (by have := hs (n + 1) (by omega); exact this) ?_
       refine sT 37 258 5 rfl <| s0O 266 6 rfl rfl rfl rfl rfl <| e1 274 rfl <| keep [2, 3, 6, 7, 8] rfl ?_
       refine r0 ?_
       refine sT 38 274 1 rfl <| sO 39 282 2 rfl ?_
       refine sA 40 290 3 rfl rfl rfl rfl rfl rfl rfl rfl rfl (by have := fold_c l n; unfold inRange; omega) ?_
       refine sT 41 298 4 rfl <| s0O 306 5 rfl rfl rfl rfl rfl <| e1 314 rfl <| bn <| tn ?_
       refine chval 1 (rollBlk (foldTo l (n + 1))) rfl (blk_eq rfl (by simp only [Int.toNat_natCast] at *; simp only [foldTo, stepR]; split <;> omega) (by simp only [Int.toNat_natCast] at *; simp only [foldTo, stepR]; split <;> omega) rfl) ?_
       refine r0 ?_
       refine sAO 42 314 1 rfl <| sT 8 322 2 rfl <| e1 330 rfl <| tn ?_
       exact again (n + 1) [0, 1] (by omega) (by omega) rfl ⟨rfl, rfl, rfl, rfl, rfl, trivial⟩ ⟨rfl, rfl, trivial⟩
     try simp only [cs, ne_eq] at hc7
     refine W_skip <| tn <| r1 <| sT 33 202 1 rfl <| sO 34 210 2 rfl <| sT 35 218 3 rfl ?_
     refine sA 36 226 4 rfl rfl rfl rfl rfl rfl rfl rfl rfl (by have := hs (n + 1) (by omega); exact this) ?_
     refine sT 37 234 5 rfl <| s0O 242 6 rfl rfl rfl rfl rfl <| e1 250 rfl <| keep [2, 3, 6, 7, 8] rfl ?_
     refine r0 ?_
     refine sT 38 250 1 rfl <| sO 39 258 2 rfl ?_
     refine sA 40 266 3 rfl rfl rfl rfl rfl rfl rfl rfl rfl (by have := fold_c l n; unfold inRange; omega) ?_
     refine sT 41 274 4 rfl <| s0O 282 5 rfl rfl rfl rfl rfl <| e1 290 rfl <| bn <| tn ?_
     refine chval 1 (rollBlk (foldTo l (n + 1))) rfl (blk_eq rfl (by simp only [Int.toNat_natCast] at *; simp only [foldTo, stepR]; split <;> omega) (by simp only [Int.toNat_natCast] at *; simp only [foldTo, stepR]; split <;> omega) rfl) ?_
     refine r0 ?_
     refine sAO 42 290 1 rfl <| sT 8 298 2 rfl <| e1 306 rfl <| tn ?_
     exact again (n + 1) [0, 1] (by omega) (by omega) rfl ⟨rfl, rfl, rfl, rfl, rfl, trivial⟩ ⟨rfl, rfl, trivial⟩
   try simp only [cs, ne_eq] at hc5
   refine W_skip <| tn <| W_seq <| r1 <| sT 23 114 1 rfl <| sO 24 122 2 rfl <| sT 25 130 3 rfl ?_
   refine ask 25 rfl (fun hg7_25 => ?_) (fun hg7_25 => ?_)
   · skip
     try simp only [cs, ne_eq] at hg7_25
     refine gF 2 false 25 26 4 rfl rfl <| gF 2 false 25 27 5 rfl rfl <| gF 2 false 25 28 6 rfl rfl <| gF 2 false 25 29 7 rfl rfl <| sT 30 170 8 rfl <| e1 178 rfl <| keep [2, 3, 5, 6, 7, 8, 30] rfl ?_
     refine q1 rfl (fun hc7 => ?_) (fun hc7 => ?_)
     · skip
       try simp only [cs, ne_eq] at hc7
       refine r0 ?_
       refine sT 31 178 1 rfl <| sT 32 186 2 rfl <| s0O 194 3 rfl rfl rfl rfl rfl <| e1 202 rfl <| tn <| r1 <| sT 33 202 1 rfl <| sO 34 210 2 rfl <| sT 35 218 3 rfl ?_
       refine sA 36 226 4 rfl rfl rfl rfl rfl rfl rfl rfl rfl (by have := hs (n + 1) (by omega); exact this) ?_
       refine sT 37 234 5 rfl <| s0O 242 6 rfl rfl rfl rfl rfl <| e1 250 rfl <| keep [2, 3, 6, 7, 8] rfl ?_
       refine r0 ?_
       refine sT 38 250 1 rfl <| sO 39 258 2 rfl ?_
       refine sA 40 266 3 rfl rfl rfl rfl rfl rfl rfl rfl rfl (by have := fold_c l n; unfold inRange; omega) ?_
       refine sT 41 274 4 rfl <| s0O 282 5 rfl rfl rfl rfl rfl <| e1 290 rfl <| bn <| tn ?_
       refine chval 1 (rollBlk (foldTo l (n + 1))) rfl (blk_eq rfl (by simp only [Int.toNat_natCast] at *; simp only [foldTo, stepR]; split <;> omega) (by simp only [Int.toNat_natCast] at *; simp only [foldTo, stepR]; split <;> omega) rfl) ?_
       refine r0 ?_
       refine sAO 42 290 1 rfl <| sT 8 298 2 rfl <| e1 306 rfl <| tn ?_
       exact again (n + 1) [0, 1] (by omega) (by omega) rfl ⟨rfl, rfl, rfl, rfl, rfl, trivial⟩ ⟨rfl, rfl, trivial⟩
     exact absurd hc7 (by decide)
   try simp only [cs, ne_eq] at hg7_25
   refine gT 2 false 25 4 rfl rfl <| sT 26 138 4 rfl <| gT 2 false 25 5 rfl rfl <| sT 27 146 5 rfl <| gT 2 false 25 6 rfl rfl <| sO 28 154 6 rfl <| gT 2 false 25 7 rfl rfl <| sO 29 162 7 rfl <| sT 30 170 8 rfl <| e1 178 rfl <| keep [2, 3, 5, 6, 7, 8, 30] rfl ?_
   refine q1 rfl (fun hc7 => ?_) (fun hc7 => ?_)
   · skip
     try simp only [cs, ne_eq] at hc7
     refine r0 ?_
     refine sT 31 178 1 rfl <| sT 32 186 2 rfl <| s0O 194 3 rfl rfl rfl rfl rfl <| e1 202 rfl <| tn <| r1 <| sT 33 202 1 rfl <| sO 34 210 2 rfl <| sT 35 218 3 rfl ?_
     refine sA 36 226 4 rfl rfl rfl rfl rfl rfl rfl rfl rfl (by have := hs (n + 1) (by omega); exact this) ?_
     refine sT 37 234 5 rfl <| s0O 242 6 rfl rfl rfl rfl rfl <| e1 250 rfl <| keep [2, 3, 6, 7, 8] rfl ?_
     refine r0 ?_
     refine sT 38 250 1 rfl <| sO 39 258 2 rfl ?_
     refine sA 40 266 3 rfl rfl rfl rfl rfl rfl rfl rfl rfl (by have := fold_c l n; unfold inRange; omega) ?_
     refine sT 41 274 4 rfl <| s0O 282 5 rfl rfl rfl rfl rfl <| e1 290 rfl <| bn <| tn ?_
     refine chval 1 (rollBlk (foldTo l (n + 1))) rfl (blk_eq rfl (by simp only [Int.toNat_natCast] at *; simp only [foldTo, stepR]; split <;> omega) (by simp only [Int.toNat_natCast] at *; simp only [foldTo, stepR]; split <;> omega) rfl) ?_
     refine r0 ?_
     refine sAO 42 290 1 rfl <| sT 8 298 2 rfl <| e1 306 rfl <| tn ?_
     exact again (n + 1) [0, 1] (by omega) (by omega) rfl ⟨rfl, rfl, rfl, rfl, rfl, trivial⟩ ⟨rfl, rfl, trivial⟩
   try simp only [cs, ne_eq] at hc7
   refine W_skip <| tn <| r1 <| sT 33 178 1 rfl <| sO 34 186 2 rfl <| sT 35 194 3 rfl ?_
   refine sA 36 202 4 rfl rfl rfl rfl rfl rfl rfl rfl rfl (by have := hs (n + 1) (by omega); exact this) ?_
   refine sT 37 210 5 rfl <| s0O 218 6 rfl rfl rfl rfl rfl <| e1 226 rfl <| keep [2, 3, 6, 7, 8] rfl ?_
   refine r0 ?_
   refine sT 38 226 1 rfl <| sO 39 234 2 rfl ?_
   refine sA 40 242 3 rfl rfl rfl rfl rfl rfl rfl rfl rfl (by have := fold_c l n; unfold inRange; omega) ?_
   refine sT 41 250 4 rfl <| s0O 258 5 rfl rfl rfl rfl rfl <| e1 266 rfl <| bn <| tn ?_
   refine chval 1 (rollBlk (foldTo l (n + 1))) rfl (blk_eq rfl (by simp only [Int.toNat_natCast] at *; simp only [foldTo, stepR]; split <;> omega) (by simp only [Int.toNat_natCast] at *; simp only [foldTo, stepR]; split <;> omega) rfl) ?_
   refine r0 ?_
   refine sAO 42 266 1 rfl <| sT 8 274 2 rfl <| e1 282 rfl <| tn ?_
   exact again (n + 1) [0, 1] (by omega) (by omega) rfl ⟨rfl, rfl, rfl, rfl, rfl, trivial⟩ ⟨rfl, rfl, trivial⟩
 try simp only [cs, ne_eq] at hc3
 refine W_exit <| tx <| tx <| bx <| tn ?_
 obtain rfl : n = l.length := (by omega)
 refine r1 <| sO 43 10 1 rfl <| s0O 18 2 rfl rfl rfl rfl rfl <| e1 26 rfl <| keep [2] rfl <| W_ret ?_
 exact outN (rollS (foldTo l l.length)) (π := []) (hout := []) Tryd.results21 rfl (by trivial) rfl rfl rfl trivial ⟨rfl, rfl⟩
end Go.Proofs.YtalhangpahffeaaDoor.Nice
