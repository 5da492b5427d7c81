/- Part 7 of the proof of StorePlays: BitEye, ChunkDec, AdlerPlain, U8, FileP, FileW, FileO, FileR, StoA. -/
import Derived.Test.YtalhangpahffeaaDoorZ6
import Derived.WalkKit
namespace Go.Proofs.YtalhangpahffeaaDoor.Nice
open Go
set_option linter.unusedVariables false
set_option linter.unusedSimpArgs false
set_option maxRecDepth 100000
set_option maxHeartbeats 4000000
def bitB (l : List Int) (i : Nat) : Int := l.getD (i / 8) 0 / 2 ^ (7 - i % 8) % 2
def numB (l : List Int) (n : Nat) : Nat → Int
 | 0 => 0
 | w + 1 => 2 * numB l n w + bitB l (n + w)
structure Bytes (l : List Int) : Prop where
 n : l.length ≤ 140737488351232
 b : ∀ k, 0 ≤ l.getD k 0 ∧ l.getD k 0 ≤ 255
theorem bitB_bd (l : List Int) (i : Nat) : bitB l i = 0 ∨ bitB l i = 1 := by
 unfold bitB; generalize l.getD (i / 8) 0 / 2 ^ (7 - i % 8) = u; omega
theorem numB_bd (l : List Int) (n w : Nat) : 0 ≤ numB l n w ∧ numB l n w < 2 ^ w := by
 induction w with
 | zero => simp [numB]
 | succ k ih =>
   have := bitB_bd l (n + k)
   rw [numB, Int.pow_succ]
   omega
theorem pow2_le {a b : Nat} (h : a ≤ b) : (2 : Int) ^ a ≤ 2 ^ b := by
 have h2 : 2 ^ a ≤ 2 ^ b := Nat.pow_le_pow_right (by decide) h
 have e : ((2 ^ a : Nat) : Int) = (2 : Int) ^ a := by simp
 have e2 : ((2 ^ b : Nat) : Int) = (2 : Int) ^ b := by simp
 omega
theorem numB_sm (l : List Int) (n : Nat) {j : Nat} (h : j ≤ 58) : isSm (numB l n j) := by
 have := numB_bd l n j
 have h2 := pow2_le h
 unfold isSm
 have : (2 : Int) ^ 58 = 288230376151711744 := by decide
 omega
theorem shr8 {k v : Int} {r : Nat} (h : k = 7 - r) (hr : r < 8) : v.fdiv (2 ^ (min k.toNat 8)) = v / 2 ^ (7 - r) := by
 subst h
 rw [show ((7 : Int) - r).toNat = 7 - r by omega, Nat.min_eq_left (by omega), Int.fdiv_eq_ediv_of_nonneg _ (Int.le_of_lt (Int.pow_pos (by decide)))]
theorem byte_div {x : Int} (h0 : 0 ≤ x) (h1 : x ≤ 255) (r : Nat) : 0 ≤ x / 2 ^ r ∧ x / 2 ^ r ≤ 255 := by
 have hp : (0 : Int) < 2 ^ r := Int.pow_pos (by decide)
 exact ⟨Int.ediv_nonneg h0 (by omega), Int.le_trans (Int.ediv_le_self _ h0) h1⟩
theorem and1 {x : Int} (h0 : 0 ≤ x) (h1 : x ≤ 255) : bits .and .i64 x 1 = x % 2 := i64_and_one x (by omega) (by omega)
theorem or_join {s b : Int} (h0 : 0 ≤ s) (h1 : s < 288230376151711744) (hb : b = 0 ∨ b = 1) : bits .or .i64 (s * 2) b = 2 * s + b := by
 obtain ⟨s, rfl⟩ := Int.eq_ofNat_of_zero_le h0
 obtain ⟨y, rfl⟩ := Int.eq_ofNat_of_zero_le (show 0 ≤ b by omega)
 rw [show (s : Int) * 2 = ((s * 2 : Nat) : Int) by omega, i64_or_nat _ _ (by omega) (by omega), nat_join 1 _ _ (by omega) (by omega)]
 omega
def gok (l : List Int) (n w : Nat) : Bool := decide (n + w ≤ 8 * l.length)
def gval (l : List Int) (n w : Nat) : Int := if n + w ≤ 8 * l.length then numB l n w else 0
def gpos (l : List Int) (n w : Nat) : Nat := if n + w ≤ 8 * l.length then n + w else n
theorem open_any (l : List Int) : Spec Tryd.prog GC 56 [u8V l] [] (fun r ho => r = .ptr 0 0 0 ∧ ho = [some (.cells 135 2 [u8V l, SV.i (0 : Nat)])]) := by
 refine start 6 0 Tryd.func56 rfl rfl rfl rfl ?_
 refine r1 <| sT 2 0 1 rfl <| e1 8 rfl <| keep [0] rfl <| r1 <| sT 3 8 1 rfl <| sT 4 16 2 rfl <| sT 5 24 3 rfl <| sT 2 32 4 rfl <| e1 40 rfl <| keep [2] rfl <| W_ret ?_
 exact out1 2 (.ptr 0 0 0) (π := [24]) (hout := [some (.cells 135 2 [u8V l, SV.i (0 : Nat)])]) Tryd.results56 rfl rfl rfl rfl ⟨rfl, trivial⟩ ⟨rfl, rfl⟩
theorem left_any (l : List Int) (hl : Bytes l) (n : Nat) (hn : n ≤ 8 * l.length) : Spec Tryd.prog GC 62 [.ptr 0 0 0] [.cells 135 2 [u8V l, SV.i (n : Nat)]] (fun r ho => r = SV.i (8 * l.length - n) ∧ ho = [some (.cells 135 2 [u8V l, SV.i (n : Nat)])]) := by
 obtain ⟨hl1, hl2⟩ := hl
 refine start 14 1 Tryd.func62 rfl rfl rfl rfl ?_
 refine r1 <| sT 2 1 1 rfl <| e1 9 rfl <| keep [0] rfl ?_
 refine rd1 rfl ?_
 refine dT 3 9 1 rfl <| dT 4 17 2 rfl <| dT 5 25 3 rfl <| dO 6 33 4 rfl <| dO 7 41 5 rfl <| dAO 8 49 6 rfl <| dT 9 57 7 rfl <| dT 10 65 8 rfl <| dT 11 73 9 rfl <| dO 12 81 10 rfl <| dAO 13 89 11 rfl <| dT 2 97 12 rfl <| de1 105 rfl (by kernel_rfl) <| keep [2] rfl <| W_ret ?_
 exact out1 2 (SV.i (8 * l.length - n)) (π := [0]) (hout := [some (.cells 135 2 [u8V l, SV.i (n : Nat)])]) Tryd.results62 rfl rfl rfl rfl ⟨rfl, trivial⟩ ⟨rfl, rfl⟩
theorem get_ok (l : List Int) (hl : Bytes l) (n : Nat) (hn : n ≤ 8 * l.length) (w : Nat) (hw : w ≤ 59) (hin : n + w ≤ 8 * l.length) : Spec Tryd.prog GC 57 [.ptr 0 0 0, SV.i w] [.cells 135 2 [u8V l, SV.i (n : Nat)]] (fun r ho => r = SV.tup [SV.i (numB l n w), SV.b true] ∧ ho = [some (.cells 135 2 [u8V l, SV.i (n + w : Nat)])]) := by
 have hlb := hl
 obtain ⟨hl1, hl2⟩ := hl
 refine start 46 1 Tryd.func57 rfl rfl rfl rfl ?_
 refine r1 <| sT 4 1 1 rfl <| sT 5 9 2 rfl <| e1 17 rfl <| keep [0, 1] rfl <| W_seq <| r1 <| sT 7 17 1 rfl <| sT 8 25 2 rfl ?_
 refine c1 (left_any l hlb n hn) [0] [0] 9 33 3 rfl rfl rfl rfl rfl rfl rfl rfl Tryd.func62 rfl rfl rfl rfl ⟨rfl, trivial⟩ rfl rfl ?_
 refine sO 10 41 4 rfl <| e1 49 rfl <| keep [0, 1, 10] rfl ?_
 refine q1 rfl (fun hc1 => ?_) (fun hc1 => ?_)
 exfalso; simp at hc1; omega
 try simp only [cs, ne_eq] at hc1
 refine W_skip <| tn <| r1 <| sT 6 49 1 rfl <| e1 57 rfl <| keep [0, 1, 6] rfl <| W_seq <| r1 <| sT 11 57 1 rfl <| sT 12 65 2 rfl <| e1 73 rfl <| keep [0, 6, 11, 12] rfl <| W_block ?_
 refine loop (α := Nat) 1 (fun j => [(0, .ptr 0 0 0), (6, SV.i (numB l n (j))), (11, SV.i w), (12, SV.i (j))]) (fun j => [some (.cells 135 2 [u8V l, SV.i (n + (j) : Nat)])]) (fun j => (j) ≤ w) (fun j => w - (j)) (((0) : Nat)) [0] (fun _ => rfl) (show (0) ≤ w from (Nat.zero_le _)) rfl ⟨rfl, rfl, rfl, rfl, trivial⟩ ⟨rfl, trivial⟩ (fun j hx => ?_)
 show W _ _ _ ⟨tOf [(0, .ptr 0 0 0), (6, SV.i (numB l n j)), (11, SV.i w), (12, SV.i j)], hOf [some (.cells 135 2 [u8V l, SV.i (n + j : Nat)])], 1⟩
 have hx : j ≤ w := hx
 refine r1 <| sO 13 1 1 rfl <| e1 9 rfl <| keep [0, 6, 11, 12, 13] rfl <| W_seq ?_
 refine q1 rfl (fun hc5 => ?_) (fun hc5 => ?_)
 · skip
   try simp only [cs, ne_eq] at hc5
   have hb := hl2 ((n + j) / 8)
   have hd := byte_div hb.1 hb.2 (7 - (n + j) % 8)
   have hs := numB_sm l n (show j ≤ 58 by omega)
   refine W_skip <| tn <| W_seq <| W_block ?_
   refine rd1 rfl ?_
   refine dT 14 9 1 rfl ?_
   refine dV 15 17 2 rfl (by decide) ?_
   refine val 15 (SV.i (numB l n j * 2)) rfl (congrArg (fun x => SV.d (D.val (Value.int .i64 x))) (shl1 hs)) ?_
   refine dT 16 25 3 rfl <| dT 17 33 4 rfl <| dT 18 41 5 rfl <| dO 19 49 6 rfl <| dT 20 57 7 rfl <| dT 21 65 8 rfl <| dT 22 73 9 rfl <| dO 23 81 10 rfl ?_
   refine dD 24 89 11 rfl rfl rfl rfl rfl rfl rfl rfl rfl (by omega) ?_
   refine dV 25 97 12 rfl (by constructor <;> omega) ?_
   refine dO 26 105 13 rfl ?_
   refine val 26 (.d (.val (.int .u8 (l.getD ((n + j) / 8) 0)))) rfl (by first | rfl | (rw [show (((n + j : Nat) : Int) / 8).toNat = (n + j) / 8 by omega])) ?_
   refine dT 27 113 14 rfl <| dT 28 121 15 rfl <| dT 29 129 16 rfl <| dO 30 137 17 rfl ?_
   refine dD 31 145 18 rfl rfl rfl rfl rfl rfl rfl rfl rfl (by omega) ?_
   refine dAO 32 153 19 rfl <| dO 33 161 20 rfl ?_
   refine val 33 (.d (.val (.int .u8 ((l.getD ((n + j) / 8) 0) / 2 ^ (7 - (n + j) % 8))))) rfl (congrArg (fun x => SV.d (D.val (Value.int .u8 x))) (shr8 (by omega) (by omega))) ?_
   refine dT 34 169 21 rfl ?_
   refine val 34 (SV.i ((l.getD ((n + j) / 8) 0) / 2 ^ (7 - (n + j) % 8))) rfl (congrArg (fun x => SV.d (D.val (Value.int .i64 x))) (wrap_in ⟨by omega, by omega⟩)) ?_
   refine dO 35 177 22 rfl ?_
   refine val 35 (SV.i (bitB l (n + j))) rfl (congrArg (fun x => SV.d (D.val (Value.int .i64 x))) (and1 hd.1 hd.2)) ?_
   refine dO 36 185 23 rfl ?_
   refine val 36 (SV.i (numB l n (j + 1))) rfl (congrArg (fun x => SV.d (D.val (Value.int .i64 x))) (or_join (numB_bd l n j).1 hs.2 (bitB_bd l _))) ?_
   refine dT 6 193 24 rfl <| de1 201 rfl (by kernel_rfl) <| keep [0, 6, 11, 12] rfl ?_
   refine r0 ?_
   refine sT 37 201 1 rfl <| sT 38 209 2 rfl <| sT 39 217 3 rfl <| sO 40 225 4 rfl <| sAO 41 233 5 rfl <| sT 42 241 6 rfl <| sT 43 249 7 rfl <| s0O 257 8 rfl rfl rfl rfl rfl <| e1 265 rfl <| bn <| tn ?_
   refine r0 ?_
   refine sAO 44 265 1 rfl <| sT 12 273 2 rfl <| e1 281 rfl <| tn ?_
   exact again ((j + 1 : Nat)) [0] (show (j + 1) ≤ w from (by omega)) (show w - (j + 1) < w - j from (by omega)) rfl ⟨rfl, rfl, rfl, rfl, trivial⟩ ⟨rfl, trivial⟩
 try simp only [cs, ne_eq] at hc5
 refine W_exit <| tx <| tx <| bx <| tn <| r1 <| sT 45 9 1 rfl <| sT 4 17 2 rfl <| sT 5 25 3 rfl <| e1 33 rfl <| keep [4, 5] rfl <| W_ret ?_
 obtain rfl : w = j := (by omega)
 exact out2 4 5 (SV.i (numB l n w)) (SV.b true) (π := [0]) (hout := [some (.cells 135 2 [u8V l, SV.i (n + w : Nat)])]) Tryd.results57 rfl rfl rfl rfl rfl rfl ⟨rfl, trivial⟩ ⟨rfl, rfl⟩
theorem get_short (l : List Int) (hl : Bytes l) (n : Nat) (hn : n ≤ 8 * l.length) (w : Nat) (hw : w ≤ 59) (hin : ¬ n + w ≤ 8 * l.length) : Spec Tryd.prog GC 57 [.ptr 0 0 0, SV.i w] [.cells 135 2 [u8V l, SV.i (n : Nat)]] (fun r ho => r = SV.tup [SV.i 0, SV.b false] ∧ ho = [some (.cells 135 2 [u8V l, SV.i (n : Nat)])]) := by
 have hlb := hl
 obtain ⟨hl1, hl2⟩ := hl
 refine start 46 1 Tryd.func57 rfl rfl rfl rfl ?_
 refine r1 <| sT 4 1 1 rfl <| sT 5 9 2 rfl <| e1 17 rfl <| keep [0, 1] rfl <| W_seq <| r1 <| sT 7 17 1 rfl <| sT 8 25 2 rfl ?_
 refine c1 (left_any l hlb n hn) [0] [0] 9 33 3 rfl rfl rfl rfl rfl rfl rfl rfl Tryd.func62 rfl rfl rfl rfl ⟨rfl, trivial⟩ rfl rfl ?_
 refine sO 10 41 4 rfl <| e1 49 rfl <| keep [0, 1, 10] rfl ?_
 refine q1 rfl (fun hc1 => ?_) (fun hc1 => ?_)
 try simp only [cs, ne_eq] at hc1
 refine r1 <| sT 4 49 1 rfl <| sT 5 57 2 rfl <| e1 65 rfl <| keep [4, 5] rfl <| W_ret <| tr ?_
 exact out2 4 5 (SV.i 0) (SV.b false) (π := [0]) (hout := [some (.cells 135 2 [u8V l, SV.i (n : Nat)])]) Tryd.results57 rfl rfl rfl rfl rfl rfl ⟨rfl, trivial⟩ ⟨rfl, rfl⟩
 exfalso; simp at hc1; omega
theorem get_any (l : List Int) (hl : Bytes l) (n : Nat) (hn : n ≤ 8 * l.length) (w : Nat) (hw : w ≤ 59) : Spec Tryd.prog GC 57 [.ptr 0 0 0, SV.i w] [.cells 135 2 [u8V l, SV.i (n : Nat)]] (fun r ho => r = SV.tup [SV.i (gval l n w), SV.b (gok l n w)] ∧ ho = [some (.cells 135 2 [u8V l, SV.i (gpos l n w : Nat)])]) := by
 by_cases h : n + w ≤ 8 * l.length
 · simp only [gval, gok, gpos, if_pos h, decide_eq_true h]; exact get_ok l hl n hn w hw h
 · simp only [gval, gok, gpos, if_neg h, decide_eq_false h]; exact get_short l hl n hn w hw h
def zpre (l : List Int) : Nat → Nat → Nat → Bool × Nat × Nat
 | 0, n, k => (true, k, n)
 | f + 1, n, k => if 8 * l.length ≤ n then (false, k, n) else if bitB l n = 0 then (true, k, n + 1) else zpre l f (n + 1) (k + 1)
structure ZG where
 x : Int
 at' : Nat
 e : Int
def zgt (l : List Int) (n : Nat) : ZG :=
 if (zpre l 4 n 0).1 = false then ⟨0, (zpre l 4 n 0).2.2, 5⟩
 else if 8 * l.length < (zpre l 4 n 0).2.2 + clB (zpre l 4 n 0).2.1 then ⟨0, (zpre l 4 n 0).2.2, 5⟩
 else if cls (numB l (zpre l 4 n 0).2.2 (clB (zpre l 4 n 0).2.1)) = (zpre l 4 n 0).2.1 then ⟨zUnf (numB l (zpre l 4 n 0).2.2 (clB (zpre l 4 n 0).2.1)), (zpre l 4 n 0).2.2 + clB (zpre l 4 n 0).2.1, 0⟩
 else ⟨0, (zpre l 4 n 0).2.2 + clB (zpre l 4 n 0).2.1, 4⟩
theorem zgt_short {l : List Int} {n q m : Nat} (h : zpre l 4 n 0 = (false, q, m)) : zgt l n = ⟨0, m, 5⟩ := by unfold zgt; rw [h]; rfl
theorem zgt_short2 {l : List Int} {n q m : Nat} (h : zpre l 4 n 0 = (true, q, m)) (h2 : 8 * l.length < m + clB q) : zgt l n = ⟨0, m, 5⟩ := by unfold zgt; rw [h]; simp only [Bool.true_eq_false, if_false]; rw [if_pos h2]
theorem zgt_form {l : List Int} {n q m : Nat} (h : zpre l 4 n 0 = (true, q, m)) (h2 : ¬ 8 * l.length < m + clB q) (h3 : cls (numB l m (clB q)) ≠ q) : zgt l n = ⟨0, m + clB q, 4⟩ := by unfold zgt; rw [h]; simp only [Bool.true_eq_false, if_false]; rw [if_neg h2, if_neg h3]
theorem zgt_ok {l : List Int} {n q m : Nat} (h : zpre l 4 n 0 = (true, q, m)) (h2 : ¬ 8 * l.length < m + clB q) (h3 : cls (numB l m (clB q)) = q) : zgt l n = ⟨zUnf (numB l m (clB q)), m + clB q, 0⟩ := by unfold zgt; rw [h]; simp only [Bool.true_eq_false, if_false]; rw [if_neg h2, if_pos h3]
theorem zpre_end (l : List Int) (k n : Nat) (h : k < 4) (h2 : 8 * l.length ≤ n) : zpre l (4 - k) n k = (false, k, n) := by
 rw [show 4 - k = (3 - k) + 1 by omega, zpre, if_pos h2]
theorem zpre_zero (l : List Int) (k n : Nat) (h : k < 4) (h2 : ¬ 8 * l.length ≤ n) (h3 : bitB l n = 0) : zpre l (4 - k) n k = (true, k, n + 1) := by
 rw [show 4 - k = (3 - k) + 1 by omega, zpre, if_neg h2, if_pos h3]
theorem zpre_one (l : List Int) (k n : Nat) (h : k < 4) (h2 : ¬ 8 * l.length ≤ n) (h3 : bitB l n ≠ 0) : zpre l (4 - k) n k = zpre l (4 - (k + 1)) (n + 1) (k + 1) := by
 rw [show 4 - k = (4 - (k + 1)) + 1 by omega, zpre, if_neg h2, if_neg h3]
theorem num1 (l : List Int) (n : Nat) : numB l n 1 = bitB l n := by show 2 * 0 + bitB l (n + 0) = _; rw [Nat.add_zero]; omega
def clG : Nat → Nat → D := fun i j => clF 0 (i * 3 + j)
theorem clL_0 {q : Nat} (h : q ≤ 4) : clL.getD (q * 3) 0 = clH q := by
 match q, h with
 | 0, _ | 1, _ | 2, _ | 3, _ | 4, _ => rfl
theorem clL_1 {q : Nat} (h : q ≤ 4) : clL.getD (q * 3 + 1) 0 = clW q := by
 match q, h with
 | 0, _ | 1, _ | 2, _ | 3, _ | 4, _ => rfl
theorem clL_2 {q : Nat} (h : q ≤ 4) : clL.getD (q * 3 + 2) 0 = clB q := by
 match q, h with
 | 0, _ | 1, _ | 2, _ | 3, _ | 4, _ => rfl
theorem clB_59 (q : Nat) : clB q ≤ 59 := by
 unfold clB
 match q with
 | 0 | 1 | 2 | 3 | 4 => decide
 | n + 5 => simp
theorem clH_inj {p q : Nat} (hp : p ≤ 4) (hq : q ≤ 4) (h : clH p = clH q) : p = q := by
 match p, hp, q, hq with
 | 0, _, 0, _ | 1, _, 1, _ | 2, _, 2, _ | 3, _, 3, _ | 4, _, 4, _ => rfl
 | 0, _, 1, _ | 0, _, 2, _ | 0, _, 3, _ | 0, _, 4, _ | 1, _, 0, _ | 1, _, 2, _ | 1, _, 3, _ | 1, _, 4, _ | 2, _, 0, _ | 2, _, 1, _ | 2, _, 3, _ | 2, _, 4, _ | 3, _, 0, _ | 3, _, 1, _ | 3, _, 2, _ | 3, _, 4, _ | 4, _, 0, _ | 4, _, 1, _ | 4, _, 2, _ | 4, _, 3, _ => exact absurd h (by decide)
theorem num59 (l : List Int) (n : Nat) {w : Nat} (h : w ≤ 59) : 0 ≤ numB l n w ∧ numB l n w < 576460752303423488 := by
 have := numB_bd l n w
 have h2 := pow2_le h
 have : (2 : Int) ^ 59 = 576460752303423488 := by decide
 omega
theorem unf_val {x : Int} (h0 : 0 ≤ x) (h1 : x < 576460752303423488) {a b : Int} (ha : a = x / 2) (hb : b = -(x % 2)) : bits .xor .i64 a b = zUnf x := by subst ha; subst hb; exact zUnf_xor x h0 h1
theorem zpre_le (l : List Int) : ∀ f n k, n ≤ 8 * l.length → (zpre l f n k).2.2 ≤ 8 * l.length
 | 0, n, k, h => h
 | f + 1, n, k, h => by
   unfold zpre
   split
   · exact h
   · split
     · show n + 1 ≤ _; omega
     · exact zpre_le l f (n + 1) (k + 1) (by omega)
theorem zgt_le (l : List Int) (n : Nat) (h : n ≤ 8 * l.length) : (zgt l n).at' ≤ 8 * l.length := by
 have := zpre_le l 4 n 0 h
 unfold zgt
 repeat' split
 all_goals (simp only []; omega)
theorem zgt_sm (l : List Int) (n : Nat) : isSm (zgt l n).x := by
 have hb := num59 l (zpre l 4 n 0).2.2 (clB_59 (zpre l 4 n 0).2.1)
 have := zUnf_bd _ hb.1 hb.2
 unfold zgt isSm
 repeat' split
 all_goals (simp only []; omega)
theorem unfold_any (x : Int) (h0 : 0 ≤ x) (h1 : x < 576460752303423488) : Spec Tryd.prog GC 74 [SV.i x] [] (fun r ho => r = SV.tup [SV.i (zUnf x), SV.i 0] ∧ ho = []) := by
 refine start 16 0 Tryd.func74 rfl rfl rfl rfl ?_
 refine r1 <| sT 2 0 1 rfl <| sT 3 8 2 rfl <| e1 16 rfl <| keep [0] rfl <| W_seq <| r1 <| sT 4 16 1 rfl <| sO 5 24 2 rfl <| sT 6 32 3 rfl ?_
 refine ask 6 rfl (fun hg1_6 => ?_) (fun hg1_6 => ?_)
 try simp only [cs, ne_eq] at hg1_6
 refine gF 2 false 6 7 4 rfl rfl <| gF 2 false 6 8 5 rfl rfl <| sT 9 56 6 rfl <| e1 64 rfl <| keep [0, 9] rfl ?_
 refine q1 rfl (fun hc1 => ?_) (fun hc1 => ?_)
 exfalso; simp at hc1; omega
 exact absurd hc1 (by decide)
 try simp only [cs, ne_eq] at hg1_6
 refine gT 2 false 6 4 rfl rfl <| sT 7 40 4 rfl <| gT 2 false 6 5 rfl rfl <| sO 8 48 5 rfl <| sT 9 56 6 rfl <| e1 64 rfl <| keep [0, 9] rfl ?_
 refine q1 rfl (fun hc1 => ?_) (fun hc1 => ?_)
 exfalso; simp at hc1; omega
 try simp only [cs, ne_eq] at hc1
 refine W_skip <| tn <| r1 <| sT 10 64 1 rfl ?_
 refine sV 11 72 2 rfl (by decide) ?_
 refine val 11 (SV.i (x / 2)) rfl (congrArg (fun x => SV.d (D.val (Value.int .i64 x))) (shr_val (k := 1) (q := 1) rfl (by decide))) ?_
 refine sT 12 80 3 rfl <| sO 13 88 4 rfl ?_
 refine val 13 (SV.i (x % 2)) rfl (congrArg (fun x => SV.d (D.val (Value.int .i64 x))) (i64_and_one x (by omega) (by omega))) ?_
 refine sT 14 96 5 rfl ?_
 refine val 14 (SV.i (-(x % 2))) rfl (congrArg (fun x => SV.d (D.val (Value.int .i64 x))) (show IntKind.i64.wrap (0 - x % 2) = _ from by rw [Int.zero_sub]; exact wrap_in ⟨by omega, by omega⟩)) ?_
 refine sO 15 104 6 rfl ?_
 refine val 15 (SV.i (zUnf x)) rfl (congrArg (fun x => SV.d (D.val (Value.int .i64 x))) (unf_val h0 h1 rfl rfl)) ?_
 refine sT 2 112 7 rfl <| sT 3 120 8 rfl <| e1 128 rfl <| keep [2, 3] rfl <| W_ret ?_
 exact out2 2 3 (SV.i (zUnf x)) (SV.i 0) (π := []) (hout := []) Tryd.results74 rfl rfl rfl rfl rfl rfl trivial ⟨rfl, rfl⟩
theorem zget_any (l : List Int) (hl : Bytes l) (n : Nat) (hn : n ≤ 8 * l.length) : Spec Tryd.prog GC 58 [.ptr 0 0 0] [.cells 135 2 [u8V l, SV.i (n : Nat)]] (fun r ho => r = SV.tup [SV.i (zgt l n).x, SV.i (zgt l n).e] ∧ ho = [some (.cells 135 2 [u8V l, SV.i ((zgt l n).at' : Nat)])]) := by
 have hlb := hl
 obtain ⟨hl1, hl2⟩ := hl
 refine start 43 1 Tryd.func58 rfl rfl rfl rfl ?_
 refine r1 <| sT 2 1 1 rfl <| sT 3 9 2 rfl <| e1 17 rfl <| keep [0] rfl <| r1 <| sT 4 17 1 rfl <| e1 25 rfl <| keep [0, 4] rfl <| W_seq <| W_block ?_
 refine loop (α := Nat) 1 (fun k => [(0, .ptr 0 0 0), (4, SV.i (k))]) (fun k => [some (.cells 135 2 [u8V l, SV.i (n + (k) : Nat)])]) (fun k => (k) ≤ 4 ∧ n + (k) ≤ 8 * l.length ∧ zpre l 4 n 0 = zpre l (4 - (k)) (n + (k)) (k)) (fun k => 4 - (k)) (((0) : Nat)) [0] (fun _ => rfl) (show (0) ≤ 4 ∧ n + (0) ≤ 8 * l.length ∧ zpre l 4 n 0 = zpre l (4 - (0)) (n + (0)) (0) from ⟨Nat.zero_le _, hn, rfl⟩) rfl ⟨rfl, rfl, trivial⟩ ⟨rfl, trivial⟩ (fun k hx => ?_)
 show W _ _ _ ⟨tOf [(0, .ptr 0 0 0), (4, SV.i k)], hOf [some (.cells 135 2 [u8V l, SV.i (n + k : Nat)])], 1⟩
 have hx : k ≤ 4 ∧ n + k ≤ 8 * l.length ∧ zpre l 4 n 0 = zpre l (4 - k) (n + k) k := hx
 obtain ⟨hk, hkn, hz⟩ := hx
 refine W_seq <| r1 <| sT 9 1 1 rfl <| sO 10 9 2 rfl <| e1 17 rfl <| keep [0, 4, 10] rfl ?_
 refine q1 rfl (fun hc2 => ?_) (fun hc2 => ?_)
 · skip
   try simp only [cs, ne_eq] at hc2
   refine W_skip <| tn <| W_block <| r1 <| sT 12 17 1 rfl ?_
   refine c1 (get_any l hlb (n + k) hkn 1 (by decide)) [0] [0] 13 25 2 rfl rfl rfl rfl rfl rfl rfl rfl Tryd.func57 rfl rfl rfl rfl ⟨rfl, trivial⟩ rfl rfl ?_
   refine sT 11 33 3 rfl <| sT 14 41 4 rfl <| sT 15 49 5 rfl <| sT 5 57 6 rfl <| sT 6 65 7 rfl <| e1 73 rfl <| keep [0, 4, 5, 6] rfl <| W_seq <| r1 <| sT 16 73 1 rfl <| sT 17 81 2 rfl <| e1 89 rfl <| keep [0, 4, 5, 17] rfl ?_
   refine q1 rfl (fun hc4 => ?_) (fun hc4 => ?_)
   try simp only [cs, ne_eq] at hc4
   refine r1 <| sT 2 89 1 rfl <| sT 3 97 2 rfl <| e1 105 rfl <| keep [2, 3] rfl <| W_ret <| tr <| br <| tr <| br <| tr ?_
   have hzz := zgt_short (hz.trans (zpre_end l k (n + k) (by omega) (by simp [gok] at hc4; omega)))
   have hp : gpos l (n + k) 1 = n + k := (by unfold gpos; rw [if_neg (by simp [gok] at hc4; omega)])
   exact out2 2 3 (SV.i (zgt l n).x) (SV.i (zgt l n).e) (π := [0]) (hout := [some (.cells 135 2 [u8V l, SV.i ((zgt l n).at' : Nat)])]) Tryd.results58 rfl rfl (by rw [hzz]; rfl) (by rw [hzz]; rfl) rfl rfl ⟨(by rw [hzz]; first | rfl | (simp only []; rw [← hp]; rfl) | (rw [hp]; rfl)), trivial⟩ ⟨rfl, rfl⟩
   try simp only [cs, ne_eq] at hc4
   have hok : n + k + 1 ≤ 8 * l.length := (by simp [gok] at hc4; exact hc4)
   have hgp : gpos l (n + k) 1 = n + k + 1 := if_pos hok
   have hgv : gval l (n + k) 1 = bitB l (n + k) := (by unfold gval; rw [if_pos hok, num1])
   refine W_skip <| tn <| W_seq <| r1 <| sT 18 89 1 rfl <| sO 19 97 2 rfl <| e1 105 rfl <| keep [0, 4, 19] rfl ?_
   refine q1 rfl (fun hc6 => ?_) (fun hc6 => ?_)
   · skip
     try simp only [cs, ne_eq] at hc6
     have hbit : bitB l (n + k) = 0 := (by rw [← hgv]; simpa using hc6)
     refine W_exit <| tx <| bo rfl <| tx <| bx <| tn ?_
     obtain ⟨q, m, hq, hz, hm, hek, hem⟩ : ∃ q m : Nat, q ≤ 4 ∧ zpre l 4 n 0 = (true, q, m) ∧ m ≤ 8 * l.length ∧ (k : Int) = q ∧ gpos l (n + k) 1 = m := ⟨k, n + k + 1, by omega, hz.trans (zpre_zero l k (n + k) (by omega) (by omega) hbit), hok, rfl, hgp⟩
     refine cval 4 (SV.i q) rfl (by rw [hek]) ?_
     refine chval 0 (.cells 135 2 [u8V l, SV.i (m : Nat)]) rfl (by first | (rw [hem]; done) | (rw [hem]; rfl)) ?_
     have h59 := clB_59 q
     refine r1 <| sT 23 105 1 rfl <| sT 24 113 2 rfl ?_
     refine s1w (.vp 3 5 clG q 0) 25 121 3 rfl rfl rfl rfl rfl rfl (by constructor <;> omega) (fun M ρ z h => h.rowed (by rw [Int.toNat_natCast, Nat.zero_add]; rfl) (by decide)) ?_
     refine sT 26 129 4 rfl <| sO 27 137 5 rfl ?_
     refine val 27 (SV.i (clB q)) rfl (congrArg (fun x => SV.d (D.val (Value.int .i64 x))) (clL_2 hq)) ?_
     refine c1 (get_any l hlb m hm (clB q) h59) [0] [0] 28 145 6 rfl rfl rfl rfl rfl rfl rfl rfl Tryd.func57 rfl rfl rfl rfl ⟨rfl, trivial⟩ rfl rfl ?_
     refine sT 22 153 7 rfl <| sT 29 161 8 rfl <| sT 30 169 9 rfl <| sT 7 177 10 rfl <| sT 8 185 11 rfl <| e1 193 rfl <| keep [4, 7, 8] rfl <| W_seq <| r1 <| sT 31 193 1 rfl <| sT 32 201 2 rfl <| e1 209 rfl <| keep [4, 7, 32] rfl ?_
     refine q1 rfl (fun hc9 => ?_) (fun hc9 => ?_)
     try simp only [cs, ne_eq] at hc9
     refine r1 <| sT 2 209 1 rfl <| sT 3 217 2 rfl <| e1 225 rfl <| keep [2, 3] rfl <| W_ret <| tr ?_
     have hzz := zgt_short2 hz (by simp [gok] at hc9; omega)
     have hp : gpos l m (clB q) = m := (by unfold gpos; rw [if_neg (by simp [gok] at hc9; omega)])
     exact out2 2 3 (SV.i (zgt l n).x) (SV.i (zgt l n).e) (π := [0]) (hout := [some (.cells 135 2 [u8V l, SV.i ((zgt l n).at' : Nat)])]) Tryd.results58 rfl rfl (by rw [hzz]; rfl) (by rw [hzz]; rfl) rfl rfl ⟨(by rw [hzz]; first | rfl | (simp only []; rw [← hp]; rfl) | (rw [hp]; rfl)), trivial⟩ ⟨rfl, rfl⟩
     try simp only [cs, ne_eq] at hc9
     have hok : m + clB q ≤ 8 * l.length := (by simp [gok] at hc9; exact hc9)
     have hp : gpos l m (clB q) = m + clB q := if_pos hok
     have hgv : gval l m (clB q) = (numB l m (clB q)) := if_pos hok
     have hX := num59 l m h59
     refine W_skip <| tn <| W_seq ?_
     refine cval 7 (SV.i (numB l m (clB q))) rfl (by rw [hgv]) ?_
     refine chval 0 (.cells 135 2 [u8V l, SV.i (m + clB q : Nat)]) rfl (by rw [hp]; rfl) ?_
     refine rd1 rfl ?_
     refine dT 33 209 1 rfl ?_
     refine dc1 (fit_any (numB l m (clB q)) hX.1) [] [] 34 217 2 rfl rfl rfl rfl rfl rfl rfl rfl Tryd.func73 rfl rfl rfl rfl trivial rfl rfl ?_
     refine dT 35 225 3 rfl ?_
     refine d1w (.vp 3 5 clG q 0) 36 233 4 rfl rfl rfl rfl rfl rfl (by constructor <;> omega) (fun M ρ z h => h.rowed (by rw [Int.toNat_natCast, Nat.zero_add]; rfl) (by decide)) ?_
     refine dO 37 241 5 rfl ?_
     refine val 37 (clsS q) rfl (by unfold clsS; rw [← clL_0 hq, ← clL_1 hq, ← clL_2 hq]; rfl) ?_
     refine dEq (op := .neq) 38 249 6 rfl rfl rfl rfl rfl rfl rfl rfl rfl (by kernel_rfl) (by kernel_rfl) rfl (.inr ⟨rfl, rfl⟩) ?_
     refine de1 257 rfl (by kernel_rfl) <| keep [7, 38] rfl ?_
     refine q1 rfl (fun hc11 => ?_) (fun hc11 => ?_)
     try simp only [cs, ne_eq] at hc11
     refine r1 <| sT 2 257 1 rfl <| sT 3 265 2 rfl <| e1 273 rfl <| keep [2, 3] rfl <| W_ret <| tr ?_
     have hzz := zgt_form hz (by omega) (fun e => by rw [e] at hc11; simp at hc11)
     exact out2 2 3 (SV.i (zgt l n).x) (SV.i (zgt l n).e) (π := [0]) (hout := [some (.cells 135 2 [u8V l, SV.i ((zgt l n).at' : Nat)])]) Tryd.results58 rfl rfl (by rw [hzz]; rfl) (by rw [hzz]; rfl) rfl rfl ⟨(by rw [hzz]; first | rfl | (simp only []; rw [← hp]; rfl) | (rw [hp]; rfl)), trivial⟩ ⟨rfl, rfl⟩
     try simp only [cs, ne_eq] at hc11
     have hcl : cls (numB l m (clB q)) = q := clH_inj (by have := cls_lt (numB l m (clB q)); omega) hq (by simp at hc11; exact hc11.1)
     refine W_skip <| tn <| r1 <| sT 39 257 1 rfl ?_
     refine c1 (unfold_any (numB l m (clB q)) hX.1 hX.2) [] [] 40 265 2 rfl rfl rfl rfl rfl rfl rfl rfl Tryd.func74 rfl rfl rfl rfl trivial rfl rfl ?_
     refine sT 41 273 3 rfl <| sT 42 281 4 rfl <| sT 2 289 5 rfl <| sT 3 297 6 rfl <| e1 305 rfl <| keep [2, 3] rfl <| W_ret ?_
     have hzz := zgt_ok hz (by omega) hcl
     exact out2 2 3 (SV.i (zgt l n).x) (SV.i (zgt l n).e) (π := [0]) (hout := [some (.cells 135 2 [u8V l, SV.i ((zgt l n).at' : Nat)])]) Tryd.results58 rfl rfl (by rw [hzz]; rfl) (by rw [hzz]; rfl) rfl rfl ⟨(by rw [hzz]; first | rfl | (simp only []; rw [← hp]; rfl) | (rw [hp]; rfl)), trivial⟩ ⟨rfl, rfl⟩
   try simp only [cs, ne_eq] at hc6
   have hbit : bitB l (n + k) ≠ 0 := (by rw [← hgv]; simpa using hc6)
   refine W_skip <| tn ?_
   refine chval 0 (.cells 135 2 [u8V l, SV.i (n + (k + 1) : Nat)]) rfl (by rw [hgp]; rfl) ?_
   refine r0 ?_
   refine sT 20 105 1 rfl <| sAO 21 113 2 rfl <| sT 4 121 3 rfl <| e1 129 rfl <| bn <| tn ?_
   exact again ((k + 1 : Nat)) [0] (show (k + 1) ≤ 4 ∧ n + (k + 1) ≤ 8 * l.length ∧ zpre l 4 n 0 = zpre l (4 - (k + 1)) (n + (k + 1)) (k + 1) from ⟨by omega, by omega, hz.trans (zpre_one l k (n + k) (by omega) (by omega) hbit)⟩) (show 4 - (k + 1) < 4 - k from (by omega)) rfl ⟨rfl, rfl, trivial⟩ ⟨rfl, trivial⟩
 try simp only [cs, ne_eq] at hc2
 refine W_exit <| tx <| tx <| bx <| tn ?_
 obtain ⟨q, m, hq, hz, hm, hek, hem⟩ : ∃ q m : Nat, q ≤ 4 ∧ zpre l 4 n 0 = (true, q, m) ∧ m ≤ 8 * l.length ∧ (k : Int) = q ∧ n + k = m := ⟨4, n + k, by omega, by rw [hz, show k = 4 by omega]; rfl, hkn, by omega, rfl⟩
 refine cval 4 (SV.i q) rfl (by rw [hek]) ?_
 refine chval 0 (.cells 135 2 [u8V l, SV.i (m : Nat)]) rfl (by first | (rw [hem]; done) | (rw [hem]; rfl)) ?_
 have h59 := clB_59 q
 refine r1 <| sT 23 17 1 rfl <| sT 24 25 2 rfl ?_
 refine s1w (.vp 3 5 clG q 0) 25 33 3 rfl rfl rfl rfl rfl rfl (by constructor <;> omega) (fun M ρ z h => h.rowed (by rw [Int.toNat_natCast, Nat.zero_add]; rfl) (by decide)) ?_
 refine sT 26 41 4 rfl <| sO 27 49 5 rfl ?_
 refine val 27 (SV.i (clB q)) rfl (congrArg (fun x => SV.d (D.val (Value.int .i64 x))) (clL_2 hq)) ?_
 refine c1 (get_any l hlb m hm (clB q) h59) [0] [0] 28 57 6 rfl rfl rfl rfl rfl rfl rfl rfl Tryd.func57 rfl rfl rfl rfl ⟨rfl, trivial⟩ rfl rfl ?_
 refine sT 22 65 7 rfl <| sT 29 73 8 rfl <| sT 30 81 9 rfl <| sT 7 89 10 rfl <| sT 8 97 11 rfl <| e1 105 rfl <| keep [4, 7, 8] rfl <| W_seq <| r1 <| sT 31 105 1 rfl <| sT 32 113 2 rfl <| e1 121 rfl <| keep [4, 7, 32] rfl ?_
 refine q1 rfl (fun hc9 => ?_) (fun hc9 => ?_)
 try simp only [cs, ne_eq] at hc9
 refine r1 <| sT 2 121 1 rfl <| sT 3 129 2 rfl <| e1 137 rfl <| keep [2, 3] rfl <| W_ret <| tr ?_
 have hzz := zgt_short2 hz (by simp [gok] at hc9; omega)
 have hp : gpos l m (clB q) = m := (by unfold gpos; rw [if_neg (by simp [gok] at hc9; omega)])
 exact out2 2 3 (SV.i (zgt l n).x) (SV.i (zgt l n).e) (π := [0]) (hout := [some (.cells 135 2 [u8V l, SV.i ((zgt l n).at' : Nat)])]) Tryd.results58 rfl rfl (by rw [hzz]; rfl) (by rw [hzz]; rfl) rfl rfl ⟨(by rw [hzz]; first | rfl | (simp only []; rw [← hp]; rfl) | (rw [hp]; rfl)), trivial⟩ ⟨rfl, rfl⟩
 try simp only [cs, ne_eq] at hc9
 have hok : m + clB q ≤ 8 * l.length := (by simp [gok] at hc9; exact hc9)
 have hp : gpos l m (clB q) = m + clB q := if_pos hok
 have hgv : gval l m (clB q) = (numB l m (clB q)) := if_pos hok
 have hX := num59 l m h59
 refine W_skip <| tn <| W_seq ?_
 refine cval 7 (SV.i (numB l m (clB q))) rfl (by rw [hgv]) ?_
 refine chval 0 (.cells 135 2 [u8V l, SV.i (m + clB q : Nat)]) rfl (by rw [hp]; rfl) ?_
 refine rd1 rfl ?_
 refine dT 33 121 1 rfl ?_
 refine dc1 (fit_any (numB l m (clB q)) hX.1) [] [] 34 129 2 rfl rfl rfl rfl rfl rfl rfl rfl Tryd.func73 rfl rfl rfl rfl trivial rfl rfl ?_
 refine dT 35 137 3 rfl ?_
 refine d1w (.vp 3 5 clG q 0) 36 145 4 rfl rfl rfl rfl rfl rfl (by constructor <;> omega) (fun M ρ z h => h.rowed (by rw [Int.toNat_natCast, Nat.zero_add]; rfl) (by decide)) ?_
 refine dO 37 153 5 rfl ?_
 refine val 37 (clsS q) rfl (by unfold clsS; rw [← clL_0 hq, ← clL_1 hq, ← clL_2 hq]; rfl) ?_
 refine dEq (op := .neq) 38 161 6 rfl rfl rfl rfl rfl rfl rfl rfl rfl (by kernel_rfl) (by kernel_rfl) rfl (.inr ⟨rfl, rfl⟩) ?_
 refine de1 169 rfl (by kernel_rfl) <| keep [7, 38] rfl ?_
 refine q1 rfl (fun hc11 => ?_) (fun hc11 => ?_)
 try simp only [cs, ne_eq] at hc11
 refine r1 <| sT 2 169 1 rfl <| sT 3 177 2 rfl <| e1 185 rfl <| keep [2, 3] rfl <| W_ret <| tr ?_
 have hzz := zgt_form hz (by omega) (fun e => by rw [e] at hc11; simp at hc11)
 exact out2 2 3 (SV.i (zgt l n).x) (SV.i (zgt l n).e) (π := [0]) (hout := [some (.cells 135 2 [u8V l, SV.i ((zgt l n).at' : Nat)])]) Tryd.results58 rfl rfl (by rw [hzz]; rfl) (by rw [hzz]; rfl) rfl rfl ⟨(by rw [hzz]; first | rfl | (simp only []; rw [← hp]; rfl) | (rw [hp]; rfl)), trivial⟩ ⟨rfl, rfl⟩
 try simp only [cs, ne_eq] at hc11
 have hcl : cls (numB l m (clB q)) = q := clH_inj (by have := cls_lt (numB l m (clB q)); omega) hq (by simp at hc11; exact hc11.1)
 refine W_skip <| tn <| r1 <| sT 39 169 1 rfl ?_
 refine c1 (unfold_any (numB l m (clB q)) hX.1 hX.2) [] [] 40 177 2 rfl rfl rfl rfl rfl rfl rfl rfl Tryd.func74 rfl rfl rfl rfl trivial rfl rfl ?_
 refine sT 41 185 3 rfl <| sT 42 193 4 rfl <| sT 2 201 5 rfl <| sT 3 209 6 rfl <| e1 217 rfl <| keep [2, 3] rfl <| W_ret ?_
 have hzz := zgt_ok hz (by omega) hcl
 exact out2 2 3 (SV.i (zgt l n).x) (SV.i (zgt l n).e) (π := [0]) (hout := [some (.cells 135 2 [u8V l, SV.i ((zgt l n).at' : Nat)])]) Tryd.results58 rfl rfl (by rw [hzz]; rfl) (by rw [hzz]; rfl) rfl rfl ⟨(by rw [hzz]; first | rfl | (simp only []; rw [← hp]; rfl) | (rw [hp]; rfl)), trivial⟩ ⟨rfl, rfl⟩
end Go.Proofs.YtalhangpahffeaaDoor.Nice
namespace Go.Proofs.YtalhangpahffeaaDoor.Nice
open Go
set_option linter.unusedVariables false
set_option linter.unusedSimpArgs false
set_option maxRecDepth 100000
set_option maxHeartbeats 4000000
def sampleOf (a : Lst) (x y : Int) : Smp := if a.n = 0 then ⟨x, y⟩ else ⟨a.t + a.st + x, a.v + y⟩
structure DecS where
 M : List Smp
 n : Nat
 e : Int
def decStep (l : List Int) (k : Nat) (p : DecS) : DecS :=
 if p.e ≠ 0 then p
 else if (zgt l p.n).e ≠ 0 then ⟨p.M, 0, (zgt l p.n).e⟩
 else if (zgt l (zgt l p.n).at').e ≠ 0 then ⟨p.M, 0, (zgt l (zgt l p.n).at').e⟩
 else if lfault (lstN p.M k) (sampleOf (lstN p.M k) (zgt l p.n).x (zgt l (zgt l p.n).at').x) ≠ 0 then ⟨p.M, 0, 4⟩
 else ⟨p.M ++ [sampleOf (lstN p.M k) (zgt l p.n).x (zgt l (zgt l p.n).at').x], (zgt l (zgt l p.n).at').at', 0⟩
def decS (l : List Int) : Nat → DecS
 | 0 => ⟨[], 8, 0⟩
 | k + 1 => decStep l k (decS l k)
def restOK (l : List Int) (n : Nat) : Prop := numB l n ((8 * l.length - n) % 8) = 0 ∧ 8 * l.length - n < 8
instance (l : List Int) (n : Nat) : Decidable (restOK l n) := inferInstanceAs (Decidable (_ ∧ _))
def decN (l : List Int) : Nat := (numB l 0 8).toNat
def decE (l : List Int) : Int := if l.length = 0 then 5 else if 120 < numB l 0 8 then 4 else if (decS l (decN l)).e ≠ 0 then (decS l (decN l)).e else if restOK l (decS l (decN l)).n then 0 else 4
def decM (l : List Int) : List Smp := (decS l (decN l)).M
theorem decS_stay {l : List Int} {k n : Nat} (hk : k ≤ n) (h : (decS l k).e ≠ 0) : decS l n = decS l k := by
 induction n with
 | zero => obtain rfl : k = 0 := by omega
           rfl
 | succ n ih =>
   rcases Nat.lt_or_ge n k with hlt | hge
   · obtain rfl : k = n + 1 := by omega
     rfl
   · have := ih hge
     show decStep l n (decS l n) = _
     unfold decStep
     rw [if_pos (by rw [this]; exact h), this]
theorem dec_e1 {l : List Int} {k n : Nat} {M : List Smp} (h : decS l k = ⟨M, n, 0⟩) (h1 : (zgt l n).e ≠ 0) : (decS l (k + 1)).e = (zgt l n).e := by
 show (decStep l k (decS l k)).e = _
 unfold decStep; rw [h]; simp only [ne_eq, not_true, if_false]; rw [if_pos h1]
theorem dec_e2 {l : List Int} {k n : Nat} {M : List Smp} (h : decS l k = ⟨M, n, 0⟩) (h1 : (zgt l n).e = 0) (h2 : (zgt l (zgt l n).at').e ≠ 0) : (decS l (k + 1)).e = (zgt l (zgt l n).at').e := by
 show (decStep l k (decS l k)).e = _
 unfold decStep; rw [h]; simp only [ne_eq, not_true, if_false]; rw [if_neg (by omega), if_pos h2]
theorem dec_e3 {l : List Int} {k n : Nat} {M : List Smp} (h : decS l k = ⟨M, n, 0⟩) (h1 : (zgt l n).e = 0) (h2 : (zgt l (zgt l n).at').e = 0) (h3 : lfault (lstN M k) (sampleOf (lstN M k) (zgt l n).x (zgt l (zgt l n).at').x) ≠ 0) : (decS l (k + 1)).e = 4 := by
 show (decStep l k (decS l k)).e = _
 unfold decStep; rw [h]; simp only [ne_eq, not_true, if_false]; rw [if_neg (by omega), if_neg (by omega), if_pos h3]
theorem dec_e4 {l : List Int} {k n : Nat} {M : List Smp} (h : decS l k = ⟨M, n, 0⟩) (h1 : (zgt l n).e = 0) (h2 : (zgt l (zgt l n).at').e = 0) (h3 : lfault (lstN M k) (sampleOf (lstN M k) (zgt l n).x (zgt l (zgt l n).at').x) = 0) : decS l (k + 1) = ⟨M ++ [sampleOf (lstN M k) (zgt l n).x (zgt l (zgt l n).at').x], (zgt l (zgt l n).at').at', 0⟩ := by
 show (decStep l k (decS l k)) = _
 unfold decStep; rw [h]; simp only [ne_eq, not_true, if_false]; rw [if_neg (by omega), if_neg (by omega), if_neg (by omega)]
theorem decE_loop {l : List Int} {k : Nat} (h0 : l.length ≠ 0) (h1 : numB l 0 8 ≤ 120) (hk : k ≤ decN l) (h : (decS l k).e ≠ 0) : decE l = (decS l k).e := by
 unfold decE
 rw [if_neg h0, if_neg (by omega), decS_stay hk h, if_pos h]
theorem decE_end {l : List Int} {n : Nat} {M : List Smp} (h0 : l.length ≠ 0) (h1 : numB l 0 8 ≤ 120) (h : decS l (decN l) = ⟨M, n, 0⟩) : decE l = if restOK l n then 0 else 4 := by
 unfold decE
 rw [if_neg h0, if_neg (by omega), h]; rfl
theorem lstN_pre (M : List Smp) (s : Smp) : ∀ k, k ≤ M.length → lstN (M ++ [s]) k = lstN M k
 | 0, _ => rfl
 | k + 1, h => by
   show nxt (lstN (M ++ [s]) k) ((M ++ [s]).getD k default) = nxt (lstN M k) (M.getD k default)
   rw [lstN_pre M s k (by omega)]
   have : (M ++ [s]).getD k default = M.getD k default := by simp only [List.getD]; rw [List.getElem?_append_left (by omega)]
   rw [this]
theorem faultTo_pre (M : List Smp) (s : Smp) : ∀ k, k ≤ M.length → faultTo (M ++ [s]) k = faultTo M k
 | 0, _ => rfl
 | k + 1, h => by
   show (if faultTo (M ++ [s]) k = 0 then lfault (lstN (M ++ [s]) k) ((M ++ [s]).getD k default) else faultTo (M ++ [s]) k) = (if faultTo M k = 0 then lfault (lstN M k) (M.getD k default) else faultTo M k)
   rw [lstN_pre M s k (by omega), faultTo_pre M s k (by omega)]
   have : (M ++ [s]).getD k default = M.getD k default := by simp only [List.getD]; rw [List.getElem?_append_left (by omega)]
   rw [this]
theorem getD_last (M : List Smp) (s : Smp) : (M ++ [s]).getD M.length default = s := by simp [List.getD]
theorem faultTo_snoc (M : List Smp) (s : Smp) (h : faultTo M M.length = 0) : faultTo (M ++ [s]) (M.length + 1) = lfault (lstN M M.length) s := by
 show (if faultTo (M ++ [s]) M.length = 0 then lfault (lstN (M ++ [s]) M.length) ((M ++ [s]).getD M.length default) else faultTo (M ++ [s]) M.length) = _
 rw [faultTo_pre M s _ (Nat.le_refl _), if_pos h, lstN_pre M s _ (Nat.le_refl _), getD_last]
theorem lstN_snoc (M : List Smp) (s : Smp) : lstN (M ++ [s]) (M.length + 1) = nxt (lstN M M.length) s := by
 show nxt (lstN (M ++ [s]) M.length) ((M ++ [s]).getD M.length default) = _
 rw [lstN_pre M s _ (Nat.le_refl _), getD_last]
theorem cat_smp' {A : List Smp} {s : Smp} (i c : Nat) (hi : i < A.length + 1) (hc : c < 2) : catR (smpF A) A.length (litR 2 [.val (.int .i64 s.t), .val (.int .i64 s.v)]) i c = smpF (A ++ [s]) i c := by
 unfold catR smpF
 by_cases h : i < A.length
 · rw [if_pos h]; simp [List.getD, List.getElem?_append_left h]
 · obtain rfl : i = A.length := by omega
   rw [if_neg (Nat.lt_irrefl _)]
   have : (A ++ [s]).getD A.length default = s := by simp [List.getD]
   rw [this, Nat.sub_self]
   match c, hc with
   | 0, _ => rfl
   | 1, _ => rfl
theorem sample_any (a : Lst) (x y : Int) (ha : LstIn a) (hx : isSm x) (hy : isSm y) : Spec Tryd.prog GC 59 [.ptr 0 0 0, SV.i x, SV.i y] [.cells 115 4 (lstX a)] (fun r ho => r = smpS (sampleOf a x y) ∧ ho = [some (.cells 115 4 (lstX a))]) := by
 obtain ⟨⟨h1, h2⟩, ⟨h3, h4⟩, ⟨h5, h6⟩, h7, h8⟩ := ha
 obtain ⟨g1a, g2a⟩ := hx
 obtain ⟨g3a, g4a⟩ := hy
 refine start 35 1 Tryd.func59 rfl rfl rfl rfl ?_
 refine r1 <| sT 6 1 1 rfl <| e1 9 rfl <| keep [0, 1, 2, 6] rfl <| W_seq <| r1 <| sT 7 9 1 rfl <| sT 8 17 2 rfl <| sT 9 25 3 rfl <| sO 10 33 4 rfl <| sO 11 41 5 rfl <| e1 49 rfl <| keep [0, 1, 2, 6, 11] rfl ?_
 refine q1 rfl (fun hc1 => ?_) (fun hc1 => ?_)
 try simp only [cs, ne_eq] at hc1
 refine r1 <| sT 12 49 1 rfl <| sT 13 57 2 rfl <| sT 14 65 3 rfl <| s0O 73 4 rfl rfl rfl rfl rfl <| e1 81 rfl <| keep [6] rfl <| W_ret <| tr ?_
 exact outN (smpS (sampleOf a x y)) (π := [0]) (hout := [some (.cells 115 4 (lstX a))]) Tryd.results59 rfl (by trivial) (by unfold sampleOf; rw [if_pos (by omega)]; rfl) rfl rfl ⟨rfl, trivial⟩ ⟨rfl, rfl⟩
 try simp only [cs, ne_eq] at hc1
 refine W_skip <| tn ?_
 refine rd1 rfl ?_
 refine dT 15 49 1 rfl <| dT 16 57 2 rfl <| dT 17 65 3 rfl <| dT 18 73 4 rfl <| dO 19 81 5 rfl <| dT 20 89 6 rfl <| dT 21 97 7 rfl <| dT 22 105 8 rfl <| dO 23 113 9 rfl <| dAO 24 121 10 rfl <| dT 25 129 11 rfl <| dAO 26 137 12 rfl <| dT 27 145 13 rfl <| dT 28 153 14 rfl <| dT 29 161 15 rfl <| dT 30 169 16 rfl ?_
 refine dO 31 177 17 rfl <| dT 32 185 18 rfl <| dAO 33 193 19 rfl <| dT 34 201 20 rfl ?_
 refine d0 209 21 rfl rfl rfl rfl rfl (by first | trivial | omega) ?_
 refine de1 217 rfl (by kernel_rfl) <| keep [6] rfl <| W_ret ?_
 exact outN (smpS (sampleOf a x y)) (π := [0]) (hout := [some (.cells 115 4 (lstX a))]) Tryd.results59 rfl (by trivial) (by unfold sampleOf; rw [if_neg (by omega)]; rfl) rfl rfl ⟨rfl, trivial⟩ ⟨rfl, rfl⟩
theorem decode_any (l : List Int) (hl : Bytes l) : Spec Tryd.prog GC 39 [u8V l] [] (fun r ho => (decE l = 0 ∧ r = SV.tup [.sl 0 0 (decM l).length, SV.i 0] ∧ ho = [some (.rows 41 2 (decM l).length (smpF (decM l)))]) ∨ (decE l ≠ 0 ∧ r = SV.tup [.d .nils, SV.i (decE l)] ∧ ho = [])) := by
 have hlb := hl
 obtain ⟨hl1, hl2⟩ := hl
 refine start 76 0 Tryd.func39 rfl rfl rfl rfl ?_
 refine r1 <| sT 2 0 1 rfl <| sT 3 8 2 rfl <| e1 16 rfl <| keep [0] rfl <| r1 <| sT 15 16 1 rfl ?_
 refine c1 (open_any l) [] [24] 16 24 2 rfl rfl rfl rfl rfl rfl rfl rfl Tryd.func56 rfl rfl rfl rfl trivial rfl rfl ?_
 refine sT 4 32 3 rfl <| e1 40 rfl <| keep [4] rfl <| r1 <| sT 18 40 1 rfl ?_
 refine c1 (get_any l hlb 0 (by omega) 8 (by decide)) [24] [24] 19 48 2 rfl rfl rfl rfl rfl rfl rfl rfl Tryd.func57 rfl rfl rfl rfl ⟨rfl, trivial⟩ rfl rfl ?_
 refine sT 17 56 3 rfl <| sT 20 64 4 rfl <| sT 21 72 5 rfl <| sT 5 80 6 rfl <| sT 6 88 7 rfl <| e1 96 rfl <| keep [4, 5, 6] rfl <| W_seq <| W_block <| r1 <| sT 23 96 1 rfl <| sT 24 104 2 rfl <| sT 22 112 3 rfl <| e1 120 rfl <| keep [4, 5, 22] rfl ?_
 refine q1 rfl (fun hc3 => ?_) (fun hc3 => ?_)
 try simp only [cs, ne_eq] at hc3
 refine r1 <| sT 2 120 1 rfl <| sT 3 128 2 rfl <| e1 136 rfl <| keep [2, 3] rfl <| W_ret <| br <| tr ?_
 have hE : decE l = 5 := (by unfold decE; rw [if_pos (by simp [gok] at hc3; omega)])
 exact out2 2 3 (.d .nils) (SV.i (decE l)) (π := []) (hout := []) Tryd.results39 rfl rfl rfl (by rw [hE]; rfl) rfl rfl trivial (.inr ⟨by rw [hE]; first | decide | assumption, rfl, rfl⟩)
 try simp only [cs, ne_eq] at hc3
 have h0 : l.length ≠ 0 := (by simp [gok] at hc3; omega)
 have hok8 : 0 + 8 ≤ 8 * l.length := (by omega)
 have hgv : gval l 0 8 = numB l 0 8 := if_pos hok8
 have hgp : gpos l 0 8 = 8 := if_pos hok8
 refine r1 <| sT 26 120 1 rfl <| sO 27 128 2 rfl <| sT 25 136 3 rfl <| e1 144 rfl <| keep [4, 5, 25] rfl ?_
 refine q1 rfl (fun hc5 => ?_) (fun hc5 => ?_)
 try simp only [cs, ne_eq] at hc5
 refine r1 <| sT 2 144 1 rfl <| sT 3 152 2 rfl <| e1 160 rfl <| keep [2, 3] rfl <| W_ret <| br <| tr ?_
 have hE : decE l = 4 := (by unfold decE; rw [if_neg h0, if_pos (by rw [← hgv]; simpa using hc5)])
 exact out2 2 3 (.d .nils) (SV.i (decE l)) (π := []) (hout := []) Tryd.results39 rfl rfl rfl (by rw [hE]; rfl) rfl rfl trivial (.inr ⟨by rw [hE]; first | decide | assumption, rfl, rfl⟩)
 try simp only [cs, ne_eq] at hc5
 have hN : numB l 0 8 ≤ 120 := (by rw [← hgv]; omega)
 have hN0 := (numB_bd l 0 8).1
 refine W_skip <| bn <| tn <| r1 <| sT 7 144 1 rfl <| e1 152 rfl <| keep [4, 5, 7] rfl <| r1 <| sT 8 152 1 rfl <| e1 160 rfl <| keep [4, 5, 7, 8] rfl <| W_seq ?_
 refine cval 5 (SV.i (numB l 0 8)) rfl (by rw [hgv]) ?_
 refine chval 24 (.cells 135 2 [u8V l, SV.i (8 : Nat)]) rfl (by rw [hgp]; rfl) ?_
 refine r1 <| sT 28 160 1 rfl <| sT 29 168 2 rfl <| e1 176 rfl <| keep [4, 7, 8, 28, 29] rfl <| W_block ?_
 refine ghostly 7 41 2 (smpF []) rfl ?_
 refine loop (α := Nat × Nat × List Smp) 3 (fun z => [(4, .ptr 0 0 0), (7, .sl 2 0 (z.2.2).length), (8, .ptr 1 0 0), (28, SV.i (numB l 0 8)), (29, SV.i (z.1))]) (fun z => [some (.cells 135 2 [u8V l, SV.i ((z.2.1) : Nat)]), some (.cells 115 4 (lstX (lstN (z.2.2) (z.1)))), some (.rows 41 2 (z.2.2).length (smpF (z.2.2)))]) (fun z => ((z.1) : Int) ≤ numB l 0 8 ∧ decS l (z.1) = ⟨(z.2.2), (z.2.1), 0⟩ ∧ (z.2.2).length = (z.1) ∧ faultTo (z.2.2) (z.1) = 0 ∧ (z.2.1) ≤ 8 * l.length) (fun z => (numB l 0 8).toNat - (z.1)) (((0, 8, []) : Nat × Nat × List Smp)) [24, 152, 176] (fun _ => rfl) (show ((0) : Int) ≤ numB l 0 8 ∧ decS l (0) = ⟨([]), (8), 0⟩ ∧ ([]).length = (0) ∧ faultTo ([]) (0) = 0 ∧ (8) ≤ 8 * l.length from ⟨hN0, rfl, rfl, rfl, by omega⟩) rfl ⟨rfl, rfl, rfl, rfl, rfl, trivial⟩ ⟨rfl, rfl, rfl, trivial⟩ (fun z hx => ?_)
 obtain ⟨k, n, M⟩ := z
 show W _ _ _ ⟨tOf [(4, .ptr 0 0 0), (7, .sl 2 0 M.length), (8, .ptr 1 0 0), (28, SV.i (numB l 0 8)), (29, SV.i k)], hOf [some (.cells 135 2 [u8V l, SV.i (n : Nat)]), some (.cells 115 4 (lstX (lstN M k))), some (.rows 41 2 M.length (smpF M))], 3⟩
 have hx : (k : Int) ≤ numB l 0 8 ∧ decS l k = ⟨M, n, 0⟩ ∧ M.length = k ∧ faultTo M k = 0 ∧ n ≤ 8 * l.length := hx
 obtain ⟨hk, hd, hMl, hf, hn⟩ := hx
 have ha := lst_in hf (by omega)
 refine r1 <| sO 30 3 1 rfl <| e1 11 rfl <| keep [4, 7, 8, 28, 29, 30] rfl <| W_seq ?_
 refine q1 rfl (fun hc10 => ?_) (fun hc10 => ?_)
 try simp only [cs, ne_eq] at hc10
 refine W_skip <| tn <| W_seq <| W_block <| r1 <| sT 32 11 1 rfl ?_
 refine c1 (zget_any l hlb n hn) [0] [0] 33 19 2 rfl rfl rfl rfl rfl rfl rfl rfl Tryd.func58 rfl rfl rfl rfl ⟨rfl, trivial⟩ rfl rfl ?_
 refine sT 31 27 3 rfl <| sT 34 35 4 rfl <| sT 35 43 5 rfl <| sT 9 51 6 rfl <| sT 10 59 7 rfl <| e1 67 rfl <| keep [4, 7, 8, 9, 10, 28, 29] rfl <| W_seq <| r1 <| sT 36 67 1 rfl <| sO 37 75 2 rfl <| e1 83 rfl <| keep [4, 7, 8, 9, 10, 28, 29, 37] rfl ?_
 refine q1 rfl (fun hc12 => ?_) (fun hc12 => ?_)
 try simp only [cs, ne_eq] at hc12
 refine r1 <| sT 38 83 1 rfl <| sT 2 91 2 rfl <| sT 3 99 3 rfl <| e1 107 rfl <| keep [2, 3] rfl <| W_ret <| tr <| br <| tr <| tr <| br <| tr ?_
 have he := dec_e1 hd hc12
 have hE : decE l = (zgt l n).e := (by rw [decE_loop h0 hN (show k + 1 ≤ decN l by unfold decN; omega) (by rw [he]; exact hc12), he])
 exact out2 2 3 (.d .nils) (SV.i (decE l)) (π := []) (hout := []) Tryd.results39 rfl rfl rfl (by rw [hE]; rfl) rfl rfl trivial (.inr ⟨by rw [hE]; first | decide | assumption, rfl, rfl⟩)
 try simp only [cs, ne_eq] at hc12
 refine W_skip <| tn <| r1 <| sT 40 83 1 rfl ?_
 refine c1 (zget_any l hlb ((zgt l n).at') (zgt_le l n hn)) [0] [0] 41 91 2 rfl rfl rfl rfl rfl rfl rfl rfl Tryd.func58 rfl rfl rfl rfl ⟨rfl, trivial⟩ rfl rfl ?_
 refine sT 39 99 3 rfl <| sT 42 107 4 rfl <| sT 43 115 5 rfl <| sT 11 123 6 rfl <| sT 10 131 7 rfl <| e1 139 rfl <| keep [4, 7, 8, 9, 10, 11, 28, 29] rfl <| W_seq <| r1 <| sT 44 139 1 rfl <| sO 45 147 2 rfl <| e1 155 rfl <| keep [4, 7, 8, 9, 10, 11, 28, 29, 45] rfl ?_
 refine q1 rfl (fun hc15 => ?_) (fun hc15 => ?_)
 try simp only [cs, ne_eq] at hc15
 refine r1 <| sT 46 155 1 rfl <| sT 2 163 2 rfl <| sT 3 171 3 rfl <| e1 179 rfl <| keep [2, 3] rfl <| W_ret <| tr <| br <| tr <| tr <| br <| tr ?_
 have he := dec_e2 hd hc12 hc15
 have hE : decE l = (zgt l ((zgt l n).at')).e := (by rw [decE_loop h0 hN (show k + 1 ≤ decN l by unfold decN; omega) (by rw [he]; exact hc15), he])
 exact out2 2 3 (.d .nils) (SV.i (decE l)) (π := []) (hout := []) Tryd.results39 rfl rfl rfl (by rw [hE]; rfl) rfl rfl trivial (.inr ⟨by rw [hE]; first | decide | assumption, rfl, rfl⟩)
 try simp only [cs, ne_eq] at hc15
 refine W_skip <| tn <| r1 <| sT 47 155 1 rfl <| sT 48 163 2 rfl ?_
 refine c1 (sample_any (lstN M k) (zgt l n).x (zgt l ((zgt l n).at')).x ha (zgt_sm l n) (zgt_sm l _)) [1] [1] 49 171 3 rfl rfl rfl rfl rfl rfl rfl rfl Tryd.func59 rfl rfl rfl rfl ⟨rfl, trivial⟩ rfl rfl ?_
 refine sT 12 179 4 rfl <| s0O 187 5 rfl rfl rfl rfl rfl <| e1 195 rfl <| keep [4, 7, 8, 12, 28, 29] rfl <| W_seq <| r1 <| sO 50 195 1 rfl ?_
 refine c1 (fault_any (lstN M k) (sampleOf (lstN M k) (zgt l n).x (zgt l ((zgt l n).at')).x)) [1] [1] 51 203 2 rfl rfl rfl rfl rfl rfl rfl rfl Tryd.func60 rfl rfl rfl rfl ⟨rfl, trivial⟩ rfl rfl ?_
 refine sO 52 211 3 rfl <| e1 219 rfl <| keep [4, 7, 8, 12, 28, 29, 52] rfl ?_
 refine q1 rfl (fun hc18 => ?_) (fun hc18 => ?_)
 try simp only [cs, ne_eq] at hc18
 refine r1 <| sT 2 219 1 rfl <| sT 3 227 2 rfl <| e1 235 rfl <| keep [2, 3] rfl <| W_ret <| tr <| br <| tr <| tr <| br <| tr ?_
 have he := dec_e3 hd hc12 hc15 hc18
 have hE : decE l = 4 := (by rw [decE_loop h0 hN (show k + 1 ≤ decN l by unfold decN; omega) (by rw [he]; decide), he])
 exact out2 2 3 (.d .nils) (SV.i (decE l)) (π := []) (hout := []) Tryd.results39 rfl rfl rfl (by rw [hE]; rfl) rfl rfl trivial (.inr ⟨by rw [hE]; first | decide | assumption, rfl, rfl⟩)
 try simp only [cs, ne_eq] at hc18
 have hf2 := lfault_zero hc18
 have hds := dec_e4 hd hc12 hc15 hc18
 refine W_skip <| tn <| r1 <| sO 53 219 1 rfl ?_
 refine c1 (next_any (lstN M k) (sampleOf (lstN M k) (zgt l n).x (zgt l ((zgt l n).at')).x) ha hf2.1 hf2.2.1) [1] [1] 54 227 2 rfl rfl rfl rfl rfl rfl rfl rfl Tryd.func61 rfl rfl rfl rfl ⟨rfl, trivial⟩ rfl rfl ?_
 refine e1 235 rfl <| keep [4, 7, 8, 12, 28, 29] rfl ?_
 refine r0 ?_
 refine sT 55 235 1 rfl <| sO 56 243 2 rfl <| sT 57 251 3 rfl ?_
 refine sV 58 259 4 rfl ⟨Nat.le_refl _, trivial, (by show (M.length + 1) * 16 ≤ 140737488355328; omega), (by simp only [maxLen]; omega)⟩ ?_
 refine sT 7 267 5 rfl <| e1 275 rfl <| bn <| tn ?_
 refine rowsc 259 (M ++ [(sampleOf (lstN M k) (zgt l n).x (zgt l ((zgt l n).at')).x)]).length (smpF (M ++ [(sampleOf (lstN M k) (zgt l n).x (zgt l ((zgt l n).at')).x)])) rfl (by simp) (fun q c hq hc => cat_smp' (s := (sampleOf (lstN M k) (zgt l n).x (zgt l ((zgt l n).at')).x)) q c hq hc) ?_
 refine cval 7 (.sl 259 0 (M ++ [(sampleOf (lstN M k) (zgt l n).x (zgt l ((zgt l n).at')).x)]).length) rfl (by simp) ?_
 have hls : lstN (M ++ [(sampleOf (lstN M k) (zgt l n).x (zgt l ((zgt l n).at')).x)]) (k + 1) = nxt (lstN M k) (sampleOf (lstN M k) (zgt l n).x (zgt l ((zgt l n).at')).x) := (by rw [← hMl]; exact lstN_snoc M _)
 refine chval 1 (.cells 115 4 (lstX (lstN (M ++ [(sampleOf (lstN M k) (zgt l n).x (zgt l ((zgt l n).at')).x)]) (k + 1)))) rfl (by rw [hls]; rfl) ?_
 refine r0 ?_
 refine sAO 59 275 1 rfl <| sT 29 283 2 rfl <| e1 291 rfl <| tn ?_
 exact again (((k + 1, (zgt l ((zgt l n).at')).at', M ++ [(sampleOf (lstN M k) (zgt l n).x (zgt l ((zgt l n).at')).x)]) : Nat × Nat × List Smp)) [0, 1, 259] (show ((k + 1) : Int) ≤ numB l 0 8 ∧ decS l (k + 1) = ⟨(M ++ [(sampleOf (lstN M k) (zgt l n).x (zgt l ((zgt l n).at')).x)]), ((zgt l ((zgt l n).at')).at'), 0⟩ ∧ (M ++ [(sampleOf (lstN M k) (zgt l n).x (zgt l ((zgt l n).at')).x)]).length = (k + 1) ∧ faultTo (M ++ [(sampleOf (lstN M k) (zgt l n).x (zgt l ((zgt l n).at')).x)]) (k + 1) = 0 ∧ ((zgt l ((zgt l n).at')).at') ≤ 8 * l.length from ⟨by omega, hds, by simp [hMl], (by rw [← hMl, faultTo_snoc M _ (by rw [hMl]; exact hf), hMl]; exact hc18), zgt_le l _ (zgt_le l n hn)⟩) (show (numB l 0 8).toNat - (k + 1) < (numB l 0 8).toNat - k from (by omega)) rfl ⟨rfl, rfl, rfl, rfl, rfl, trivial⟩ ⟨rfl, rfl, rfl, trivial⟩
 try simp only [cs, ne_eq] at hc10
 refine W_exit <| tx <| tx <| bx <| tn ?_
 have hkN : k = decN l := (by unfold decN; omega)
 have hdN : decS l (decN l) = ⟨M, n, 0⟩ := (by rw [← hkN]; exact hd)
 have hend := decE_end h0 hN hdN
 refine r1 <| sT 61 11 1 rfl <| sT 62 19 2 rfl ?_
 refine c1 (left_any l hlb n hn) [0] [0] 63 27 3 rfl rfl rfl rfl rfl rfl rfl rfl Tryd.func62 rfl rfl rfl rfl ⟨rfl, trivial⟩ rfl rfl ?_
 refine sD 64 35 4 rfl rfl rfl rfl rfl rfl rfl rfl rfl (by omega) ?_
 refine val 64 (SV.i (((8 * l.length - n) % 8) : Nat)) rfl (congrArg (fun x => SV.d (D.val (Value.int .i64 x))) (by omega)) ?_
 refine c1 (get_any l hlb n hn ((8 * l.length - n) % 8) (by omega)) [0] [0] 65 43 5 rfl rfl rfl rfl rfl rfl rfl rfl Tryd.func57 rfl rfl rfl rfl ⟨rfl, trivial⟩ rfl rfl ?_
 refine sT 60 51 6 rfl <| sT 66 59 7 rfl <| sT 67 67 8 rfl <| sT 13 75 9 rfl <| sT 14 83 10 rfl <| e1 91 rfl <| keep [4, 7, 13] rfl <| W_seq ?_
 have hok : n + ((8 * l.length - n) % 8) ≤ 8 * l.length := (by omega)
 have hgv2 : gval l n ((8 * l.length - n) % 8) = numB l n ((8 * l.length - n) % 8) := if_pos hok
 have hgp2 : gpos l n ((8 * l.length - n) % 8) = n + ((8 * l.length - n) % 8) := if_pos hok
 have hnb := (numB_bd l n ((8 * l.length - n) % 8)).1
 refine cval 13 (SV.i (numB l n ((8 * l.length - n) % 8))) rfl (by rw [hgv2]) ?_
 refine chval 0 (.cells 135 2 [u8V l, SV.i (n + ((8 * l.length - n) % 8) : Nat)]) rfl (by rw [hgp2]; rfl) ?_
 refine r1 <| sT 68 91 1 rfl <| sO 69 99 2 rfl <| sT 70 107 3 rfl ?_
 refine ask 70 rfl (fun hg24_70 => ?_) (fun hg24_70 => ?_)
 try simp only [cs, ne_eq] at hg24_70
 refine gF 2 false 70 71 4 rfl rfl <| gF 2 false 70 72 5 rfl rfl <| gF 2 false 70 73 6 rfl rfl <| sT 74 139 7 rfl <| e1 147 rfl <| keep [7, 74] rfl ?_
 refine q1 rfl (fun hc24 => ?_) (fun hc24 => ?_)
 try simp only [cs, ne_eq] at hc24
 refine r1 <| sT 2 147 1 rfl <| sT 3 155 2 rfl <| e1 163 rfl <| keep [2, 3] rfl <| W_ret <| tr ?_
 have hE : decE l = 4 := (by rw [hend, if_neg (by unfold restOK; omega)])
 exact out2 2 3 (.d .nils) (SV.i (decE l)) (π := []) (hout := []) Tryd.results39 rfl rfl rfl (by rw [hE]; rfl) rfl rfl trivial (.inr ⟨by rw [hE]; first | decide | assumption, rfl, rfl⟩)
 exact absurd hc24 (by decide)
 try simp only [cs, ne_eq] at hg24_70
 refine gT 2 false 70 4 rfl rfl <| sT 71 115 4 rfl <| gT 2 false 70 5 rfl rfl ?_
 refine c1 (left_any l hlb (n + ((8 * l.length - n) % 8)) (by omega)) [0] [0] 72 123 5 rfl rfl rfl rfl rfl rfl rfl rfl Tryd.func62 rfl rfl rfl rfl ⟨rfl, trivial⟩ rfl rfl ?_
 refine gT 2 false 70 6 rfl rfl <| sO 73 131 6 rfl <| sT 74 139 7 rfl <| e1 147 rfl <| keep [7, 74] rfl ?_
 refine q1 rfl (fun hc24 => ?_) (fun hc24 => ?_)
 try simp only [cs, ne_eq] at hc24
 refine r1 <| sT 2 147 1 rfl <| sT 3 155 2 rfl <| e1 163 rfl <| keep [2, 3] rfl <| W_ret <| tr ?_
 have hE : decE l = 4 := (by rw [hend, if_neg (by unfold restOK; omega)])
 exact out2 2 3 (.d .nils) (SV.i (decE l)) (π := []) (hout := []) Tryd.results39 rfl rfl rfl (by rw [hE]; rfl) rfl rfl trivial (.inr ⟨by rw [hE]; first | decide | assumption, rfl, rfl⟩)
 try simp only [cs, ne_eq] at hc24
 refine W_skip <| tn <| r1 <| sT 75 147 1 rfl <| sT 2 155 2 rfl <| sT 3 163 3 rfl <| e1 171 rfl <| keep [2, 3] rfl <| W_ret ?_
 have hE : decE l = 0 := (by rw [hend, if_pos (by unfold restOK; omega)])
 have hMM : decM l = M := (by unfold decM; rw [hdN])
 exact out2 2 3 (.sl 0 0 (decM l).length) (SV.i 0) (π := [2]) (hout := [some (.rows 41 2 (decM l).length (smpF (decM l)))]) Tryd.results39 rfl rfl (by rw [hMM]; rfl) rfl rfl rfl ⟨(by rw [hMM]; rfl), trivial⟩ (.inl ⟨hE, rfl, rfl⟩)
end Go.Proofs.YtalhangpahffeaaDoor.Nice
namespace Go.Proofs.YtalhangpahffeaaDoor
open Go Go.RowKit
def adStep (p : Int × Int) (x : Int) : Int × Int := ((p.1 + x) % 65521, (p.2 + (p.1 + x)) % 65521)
def adl (p : Int × Int) (l : List Int) : Int × Int := l.foldl adStep p
theorem adl_snoc (p : Int × Int) (l : List Int) (x : Int) : adl p (l ++ [x]) = adStep (adl p l) x := by simp [adl]
theorem take_succ_getD (l : List Int) (k : Nat) (h : k < l.length) : l.take (k + 1) = l.take k ++ [l.getD k 0] := by
 rw [List.take_succ_eq_append_getElem h]; simp [List.getD, List.getElem?_eq_getElem h]
theorem adl_take (p : Int × Int) (l : List Int) (k : Nat) (h : k < l.length) : adl p (l.take (k + 1)) = adStep (adl p (l.take k)) (l.getD k 0) := by
 rw [take_succ_getD l k h, adl_snoc]
theorem adStep_bd (p : Int × Int) (x : Int) : 0 ≤ (adStep p x).1 ∧ (adStep p x).1 < 65521 ∧ 0 ≤ (adStep p x).2 ∧ (adStep p x).2 < 65521 := by
 unfold adStep; refine ⟨?_, ?_, ?_, ?_⟩ <;> simp only [] <;> omega
theorem adl_bd (p : Int × Int) (l : List Int) (h1 : 0 ≤ p.1) (h2 : p.1 < 65521) (h3 : 0 ≤ p.2) (h4 : p.2 < 65521) :
   0 ≤ (adl p l).1 ∧ (adl p l).1 < 65521 ∧ 0 ≤ (adl p l).2 ∧ (adl p l).2 < 65521 := by
 induction l generalizing p with
 | nil => exact ⟨h1, h2, h3, h4⟩
 | cons x l ih =>
   have hb := adStep_bd p x
   exact ih (adStep p x) hb.1 hb.2.1 hb.2.2.1 hb.2.2.2
theorem join16 (a b : Int) (h1 : 0 ≤ a) (h2 : a < 65536) (h3 : 0 ≤ b) (h4 : b < 65536) : bits .or .i64 (b * 65536) a = b * 65536 + a := by
 obtain ⟨x, rfl⟩ := Int.eq_ofNat_of_zero_le h1
 obtain ⟨y, rfl⟩ := Int.eq_ofNat_of_zero_le h3
 have e : ((y : Int) * 65536) = ((y * 65536 : Nat) : Int) := by omega
 rw [e, i64_or_nat _ _ (by omega) (by omega), nat_join 16 _ _ (by omega) (by omega)]
 omega
end Go.Proofs.YtalhangpahffeaaDoor
namespace Go.Proofs.YtalhangpahffeaaDoor.Nice
open Go
set_option linter.unusedVariables false
set_option linter.unusedSimpArgs false
set_option maxRecDepth 100000
set_option maxHeartbeats 4000000
abbrev GF := GC
end Go.Proofs.YtalhangpahffeaaDoor.Nice
namespace Go.Proofs.YtalhangpahffeaaDoor.Nice
open Go
set_option linter.unusedVariables false
set_option linter.unusedSimpArgs false
set_option maxRecDepth 100000
set_option maxHeartbeats 4000000
def u8B (l : List Int) : Blk := .rows 5 1 l.length (u8F l)
theorem bytes_drop {l : List Int} (h : Bytes l) (k : Nat) : Bytes (l.drop k) := by
 refine ⟨by rw [List.length_drop]; have := h.n; omega, fun j => ?_⟩
 have := h.b (k + j)
 simpa [List.getD, List.getElem?_drop] using this
theorem bytes_take {l : List Int} (h : Bytes l) (k : Nat) : Bytes (l.take k) := by
 refine ⟨by rw [List.length_take]; have := h.n; omega, fun j => ?_⟩
 rw [List.getD_eq_getElem?_getD, List.getElem?_take]
 split
 · rw [← List.getD_eq_getElem?_getD]; exact h.b j
 · exact ⟨by decide, by decide⟩
theorem u8F_drop (l : List Int) (k : Nat) : (fun r c => u8F l (k + r) c) = u8F (l.drop k) := by
 funext r c; unfold u8F; simp [List.getD, List.getElem?_drop]
theorem u8F_take (l : List Int) {n i : Nat} (h : i < n) (c : Nat) : u8F l i c = u8F (l.take n) i c := by
 unfold u8F; simp [List.getD, List.getElem?_take, h]
theorem piece_w {M : Imm} {ρ : Names} {l : List Int} {a n m : Nat} {z : Value} (hm : m = n) (hn : a + n ≤ l.length) (h : VR M ρ (.d (.vec 1 m (fun r c => u8F l (a + r) c))) z) : VR M ρ (u8V ((l.drop a).take n)) z := by
 subst hm
 rw [u8F_drop] at h
 have e : ((l.drop a).take m).length = m := by rw [List.length_take, List.length_drop]; omega
 unfold u8V; rw [e]
 exact VR.vec_congr h fun i c hi _ => u8F_take _ hi c
theorem piece0_w {M : Imm} {ρ : Names} {l : List Int} {n m : Nat} {z : Value} (hm : m = n) (hn : n ≤ l.length) (h : VR M ρ (.d (.vec 1 m (u8F l))) z) : VR M ρ (u8V (l.take n)) z := by
 subst hm
 have e : (l.take m).length = m := by rw [List.length_take]; omega
 unfold u8V; rw [e]
 exact VR.vec_congr h fun i c hi _ => u8F_take _ hi c
theorem drop_w {M : Imm} {ρ : Names} {l : List Int} {a m : Nat} {z : Value} (hm : m = l.length - a) (h : VR M ρ (.d (.vec 1 m (fun r c => u8F l (a + r) c))) z) : VR M ρ (u8V (l.drop a)) z := by
 subst hm
 rw [u8F_drop] at h
 unfold u8V; rw [List.length_drop]; exact h
def getB (l : List Int) : Int := l.foldl (fun n x => n * 256 + x) 0
theorem getB_take (l : List Int) (k : Nat) (h : k < l.length) : getB (l.take (k + 1)) = getB (l.take k) * 256 + l.getD k 0 := by
 rw [take_succ_getD l k h]; unfold getB; rw [List.foldl_append]; rfl
theorem getB_bd {l : List Int} (h : ∀ k, 0 ≤ l.getD k 0 ∧ l.getD k 0 ≤ 255) : ∀ k, k ≤ l.length → 0 ≤ getB (l.take k) ∧ getB (l.take k) < 256 ^ k
 | 0, _ => by rw [List.take_zero]; exact ⟨by decide, by decide⟩
 | k + 1, hk => by
   have ih := getB_bd h k (by omega)
   have := h k
   rw [getB_take l k (by omega), Int.pow_succ]
   omega
theorem shl8 {a : Int} (h0 : 0 ≤ a) (h1 : a < 281474976710656) : IntKind.i64.wrap (a * 2 ^ (min (8 : Int).toNat 64)) = a * 256 := by
 rw [show (2 : Int) ^ (min (8 : Int).toNat 64) = 256 from rfl]
 exact wrap_in ⟨by omega, by omega⟩
theorem shl16 {a : Int} (h0 : 0 ≤ a) (h1 : a < 65521) : IntKind.i64.wrap (a * 2 ^ (min (16 : Int).toNat 64)) = a * 65536 := by
 rw [show (2 : Int) ^ (min (16 : Int).toNat 64) = 65536 from rfl]
 exact wrap_in ⟨by omega, by omega⟩
theorem or8 {a x : Int} (h0 : 0 ≤ a) (h1 : a < 281474976710656) (h2 : 0 ≤ x) (h3 : x ≤ 255) : bits .or .i64 (a * 256) x = a * 256 + x := by
 obtain ⟨a, rfl⟩ := Int.eq_ofNat_of_zero_le h0
 obtain ⟨y, rfl⟩ := Int.eq_ofNat_of_zero_le h2
 rw [show (a : Int) * 256 = ((a * 256 : Nat) : Int) by omega, i64_or_nat _ _ (by omega) (by omega), nat_join 8 _ _ (by omega) (by omega)]
 omega
theorem pow256 {k : Nat} (h : k ≤ 6) : (256 : Int) ^ k ≤ 281474976710656 := by
 have h2 : 256 ^ k ≤ 256 ^ 6 := Nat.pow_le_pow_right (by decide) h
 have e : ((256 ^ k : Nat) : Int) = (256 : Int) ^ k := by simp
 have : (256 : Nat) ^ 6 = 281474976710656 := by decide
 omega
def adP (l : List Int) : Int × Int := adl (1, 0) l
def adO (l : List Int) : Int := (adP l).2 * 65536 + (adP l).1
theorem adP_bd (l : List Int) : 0 ≤ (adP l).1 ∧ (adP l).1 < 65521 ∧ 0 ≤ (adP l).2 ∧ (adP l).2 < 65521 := adl_bd _ _ (by decide) (by decide) (by decide) (by decide)
theorem adO_bd (l : List Int) : 0 ≤ adO l ∧ adO l < 4294967296 := by have := adP_bd l; unfold adO; omega
def adS (p : Int × Int) : SV := .agg [SV.i p.1, SV.i p.2]
theorem adl_take_bd (p : Int × Int) (l : List Int) (n : Nat) (h1 : 0 ≤ p.1 ∧ p.1 < 65521) (h2 : 0 ≤ p.2 ∧ p.2 < 65521) : 0 ≤ (adl p (l.take n)).1 ∧ (adl p (l.take n)).1 < 65521 ∧ 0 ≤ (adl p (l.take n)).2 ∧ (adl p (l.take n)).2 < 65521 := adl_bd _ _ h1.1 h1.2 h2.1 h2.2
structure FstR where
 e : Int
 body : List Int
def fstN (l : List Int) : Nat := (getB (l.take 2)).toNat
def fstB (l : List Int) : List Int := (l.drop 6).take (fstN l)
def fstS (l : List Int) : Int := getB ((l.drop 2).take 4)
def fstR (l : List Int) : FstR := if l.length < 6 then ⟨5, []⟩ else if 4000 < fstN l then ⟨1, []⟩ else if l.length < 6 + fstN l then ⟨5, []⟩ else if adO (fstB l) = fstS l then ⟨0, fstB l⟩ else ⟨10, []⟩
theorem fst_ok {l : List Int} (h : (fstR l).e = 0) : ¬ l.length < 6 ∧ ¬ 4000 < fstN l ∧ ¬ l.length < 6 + fstN l ∧ adO (fstB l) = fstS l ∧ (fstR l).body = fstB l ∧ (fstB l).length = fstN l := by
 have hl : ¬ l.length < 6 + fstN l → (fstB l).length = fstN l := fun h => by unfold fstB; rw [List.length_take, List.length_drop]; omega
 unfold fstR at *
 by_cases h1 : l.length < 6
 · rw [if_pos h1] at h; cases h
 · rw [if_neg h1] at h ⊢
   by_cases h2 : 4000 < fstN l
   · rw [if_pos h2] at h; cases h
   · rw [if_neg h2] at h ⊢
     by_cases h3 : l.length < 6 + fstN l
     · rw [if_pos h3] at h; cases h
     · rw [if_neg h3] at h ⊢
       by_cases h4 : adO (fstB l) = fstS l
       · rw [if_pos h4]; exact ⟨h1, h2, h3, h4, rfl, hl h3⟩
       · rw [if_neg h4] at h; cases h
theorem fst_short {l : List Int} (h : l.length < 6) : fstR l = ⟨5, []⟩ := by unfold fstR; rw [if_pos h]
theorem fst_size {l : List Int} (h : ¬ l.length < 6) (h2 : 4000 < fstN l) : fstR l = ⟨1, []⟩ := by unfold fstR; rw [if_neg h, if_pos h2]
theorem fst_short2 {l : List Int} (h : ¬ l.length < 6) (h2 : ¬ 4000 < fstN l) (h3 : l.length < 6 + fstN l) : fstR l = ⟨5, []⟩ := by unfold fstR; rw [if_neg h, if_neg h2, if_pos h3]
theorem fst_sum {l : List Int} (h : ¬ l.length < 6) (h2 : ¬ 4000 < fstN l) (h3 : ¬ l.length < 6 + fstN l) (h4 : ¬ adO (fstB l) = fstS l) : fstR l = ⟨10, []⟩ := by unfold fstR; rw [if_neg h, if_neg h2, if_neg h3, if_neg h4]
theorem fst_yes {l : List Int} (h : ¬ l.length < 6) (h2 : ¬ 4000 < fstN l) (h3 : ¬ l.length < 6 + fstN l) (h4 : adO (fstB l) = fstS l) : fstR l = ⟨0, fstB l⟩ := by unfold fstR; rw [if_neg h, if_neg h2, if_neg h3, if_pos h4]
theorem fstN_bd {l : List Int} (h : Bytes l) (h2 : 2 ≤ l.length) : getB (l.take 2) = (fstN l : Int) ∧ fstN l < 65536 := by
 have := getB_bd h.b 2 h2
 unfold fstN
 have e : (256 : Int) ^ 2 = 65536 := by decide
 omega
structure OpenR where
 L : List (List Int)
 n : Int
 e : Int
def opn (l : List Int) : Nat → Nat → List (List Int) → OpenR
 | 0, n, L => ⟨L, n, 0⟩
 | f + 1, n, L => if l.length ≤ n then ⟨L, n, 0⟩ else if L.length = 200 then ⟨L, n, 8⟩ else if (fstR (l.drop n)).e ≠ 0 then ⟨L, n, (fstR (l.drop n)).e⟩ else opn l f (n + (6 + (fstR (l.drop n)).body.length)) (L ++ [(fstR (l.drop n)).body])
def opened (l : List Int) : OpenR := opn l 201 0 []
theorem opn_end {l : List Int} {f n : Nat} {L : List (List Int)} (h : l.length ≤ n) : opn l f n L = ⟨L, n, 0⟩ := by
 cases f with
 | zero => rfl
 | succ f => unfold opn; rw [if_pos h]
theorem opn_full {l : List Int} {f n : Nat} {L : List (List Int)} (hf : 0 < f) (h : ¬ l.length ≤ n) (h2 : L.length = 200) : opn l f n L = ⟨L, n, 8⟩ := by
 cases f with
 | zero => omega
 | succ f => unfold opn; rw [if_neg h, if_pos h2]
theorem opn_bad {l : List Int} {f n : Nat} {L : List (List Int)} (hf : 0 < f) (h : ¬ l.length ≤ n) (h2 : ¬ L.length = 200) {r : FstR} (hr : fstR (l.drop n) = r) (h3 : r.e ≠ 0) : opn l f n L = ⟨L, n, r.e⟩ := by
 subst hr
 cases f with
 | zero => omega
 | succ f => unfold opn; rw [if_neg h, if_neg h2, if_pos h3]
theorem opn_go {l : List Int} {f n : Nat} {L : List (List Int)} (hf : 0 < f) (h : ¬ l.length ≤ n) (h2 : ¬ L.length = 200) (h3 : (fstR (l.drop n)).e = 0) : opn l f n L = opn l (f - 1) (n + (6 + (fstR (l.drop n)).body.length)) (L ++ [(fstR (l.drop n)).body]) := by
 cases f with
 | zero => omega
 | succ f => rw [opn, if_neg h, if_neg h2, if_neg (by rw [h3]; simp)]; rfl
def lstF (L : List (List Int)) : Nat → Nat → D := fun i _ => .vec 1 (L.getD i []).length (u8F (L.getD i []))
def lstV (L : List (List Int)) : SV := .d (.vec 1 L.length (lstF L))
theorem lst_cat (L : List (List Int)) (b : List Int) (i c : Nat) (hi : i < L.length + 1) (hc : c < 1) : catR (lstF L) L.length (litR 1 [.vec 1 b.length (u8F b)]) i c = lstF (L ++ [b]) i c := by
 obtain rfl : c = 0 := by omega
 unfold catR lstF litR
 by_cases h : i < L.length
 · rw [if_pos h]; simp [List.getD, List.getElem?_append_left h]
 · obtain rfl : i = L.length := by omega
   rw [if_neg (Nat.lt_irrefl _)]; simp [List.getD]
end Go.Proofs.YtalhangpahffeaaDoor.Nice
namespace Go.Proofs.YtalhangpahffeaaDoor.Nice
open Go
set_option linter.unusedVariables false
set_option linter.unusedSimpArgs false
set_option maxRecDepth 100000
set_option maxHeartbeats 4000000
theorem fget_any (l : List Int) (hl : Bytes l) (h6 : l.length ≤ 6) : Spec Tryd.prog GF 38 [u8V l] [] (fun r ho => r = SV.i (getB l) ∧ ho = []) := by
 have hl2 := hl.b
 have hln := hl.n
 refine start 19 0 Tryd.func38 rfl rfl rfl rfl ?_
 refine r1 <| sT 2 0 1 rfl <| e1 8 rfl <| keep [0] rfl <| r1 <| sT 3 8 1 rfl <| e1 16 rfl <| keep [0, 3] rfl <| W_seq <| r1 <| sT 6 16 1 rfl <| sO 7 24 2 rfl <| sT 8 32 3 rfl <| e1 40 rfl <| keep [3, 6, 7, 8] rfl <| W_block ?_
 refine loop (α := Nat) 0 (fun n => [(3, SV.i (getB (l.take (n)))), (6, u8V l), (7, SV.i l.length), (8, SV.i (n))]) (fun n => []) (fun n => (n) ≤ l.length) (fun n => l.length - (n)) (((0) : Nat)) [] (fun _ => rfl) (show (0) ≤ l.length from (Nat.zero_le _)) rfl ⟨rfl, rfl, rfl, rfl, trivial⟩ trivial (fun n hx => ?_)
 show W _ _ _ ⟨tOf [(3, SV.i (getB (l.take n))), (6, u8V l), (7, SV.i l.length), (8, SV.i n)], hOf [], 0⟩
 have hx : n ≤ l.length := hx
 have hb := getB_bd hl2 n hx
 have hp := pow256 (show n ≤ 6 by omega)
 have hx8 := hl2 n
 refine r1 <| sO 9 0 1 rfl <| e1 8 rfl <| keep [3, 6, 7, 8, 9] rfl <| W_seq ?_
 refine q1 rfl (fun hc3 => ?_) (fun hc3 => ?_)
 try simp only [cs, ne_eq] at hc3
 refine W_skip <| tn <| W_seq <| W_block <| r1 <| sO 10 8 1 rfl <| sO 11 16 2 rfl ?_
 refine val 11 (.d (.val (.int .u8 (l.getD n 0)))) rfl (by simp only [Int.toNat_natCast]) ?_
 refine sT 5 24 3 rfl <| e1 32 rfl <| keep [3, 5, 6, 7, 8] rfl ?_
 refine r0 ?_
 refine sT 12 32 1 rfl ?_
 refine sV 13 40 2 rfl (by decide) ?_
 refine val 13 (SV.i (getB (l.take n) * 256)) rfl (congrArg (fun x => SV.d (D.val (Value.int .i64 x))) (shl8 hb.1 (by omega))) ?_
 refine sT 14 48 3 rfl <| sT 15 56 4 rfl ?_
 refine val 15 (SV.i (l.getD n 0)) rfl (congrArg (fun x => SV.d (D.val (Value.int .i64 x))) (wrap_in ⟨by omega, by omega⟩)) ?_
 refine sO 16 64 5 rfl ?_
 refine val 16 (SV.i (getB (l.take (n + 1)))) rfl (congrArg (fun x => SV.d (D.val (Value.int .i64 x))) ((or8 hb.1 (by omega) hx8.1 hx8.2).trans (getB_take l n (by omega)).symm)) ?_
 refine sT 3 72 6 rfl <| e1 80 rfl <| bn <| tn ?_
 refine r0 ?_
 refine sAO 17 80 1 rfl <| sT 8 88 2 rfl <| e1 96 rfl <| tn ?_
 exact again ((n + 1 : Nat)) [] (show (n + 1) ≤ l.length from (by omega)) (show l.length - (n + 1) < l.length - n from (by omega)) rfl ⟨rfl, rfl, rfl, rfl, trivial⟩ trivial
 try simp only [cs, ne_eq] at hc3
 refine W_exit <| tx <| tx <| bx <| tn <| r1 <| sT 18 8 1 rfl <| sT 2 16 2 rfl <| e1 24 rfl <| keep [2] rfl <| W_ret ?_
 obtain rfl : n = l.length := (by omega)
 exact out1 2 (SV.i (getB l)) (π := []) (hout := []) Tryd.results38 rfl (by rw [List.take_length]; rfl) rfl rfl trivial ⟨rfl, rfl⟩
theorem awith_any (l : List Int) (hl : Bytes l) (p : Int × Int) (h1 : 0 ≤ p.1 ∧ p.1 < 65521) (h2 : 0 ≤ p.2 ∧ p.2 < 65521) : Spec Tryd.prog GF 71 [adS p, u8V l] [] (fun r ho => r = adS (adl p l) ∧ ho = []) := by
 have hl2 := hl.b
 have hln := hl.n
 refine start 29 0 Tryd.func71 rfl rfl rfl rfl ?_
 refine r1 <| sT 2 0 1 rfl <| sT 4 8 2 rfl <| e1 16 rfl <| keep [1, 2, 4] rfl <| W_seq <| r1 <| sT 7 16 1 rfl <| sO 8 24 2 rfl <| sT 9 32 3 rfl <| e1 40 rfl <| keep [2, 4, 7, 8, 9] rfl <| W_block ?_
 refine loop (α := Nat) 2 (fun n => [(2, .ptr 0 0 0), (4, .ptr 1 0 0), (7, u8V l), (8, SV.i l.length), (9, SV.i (n))]) (fun n => [some (.cells 133 2 [SV.i (adl p (l.take (n))).1, SV.i (adl p (l.take (n))).2]), some (.cells 133 2 [SV.i 0, SV.i 0])]) (fun n => (n) ≤ l.length) (fun n => l.length - (n)) (((0) : Nat)) [0, 8] (fun _ => rfl) (show (0) ≤ l.length from (Nat.zero_le _)) rfl ⟨rfl, rfl, rfl, rfl, rfl, trivial⟩ ⟨rfl, rfl, trivial⟩ (fun n hx => ?_)
 show W _ _ _ ⟨tOf [(2, .ptr 0 0 0), (4, .ptr 1 0 0), (7, u8V l), (8, SV.i l.length), (9, SV.i n)], hOf [some (.cells 133 2 [SV.i (adl p (l.take n)).1, SV.i (adl p (l.take n)).2]), some (.cells 133 2 [SV.i 0, SV.i 0])], 2⟩
 have hx : n ≤ l.length := hx
 have hb := adl_take_bd p l n h1 h2
 have hx8 := hl2 n
 have hst := adl_take p l n
 refine r1 <| sO 10 2 1 rfl <| e1 10 rfl <| keep [2, 4, 7, 8, 9, 10] rfl <| W_seq ?_
 refine q1 rfl (fun hc2 => ?_) (fun hc2 => ?_)
 try simp only [cs, ne_eq] at hc2
 refine W_skip <| tn <| W_seq <| W_block <| r1 <| sO 11 10 1 rfl <| sO 12 18 2 rfl ?_
 refine val 12 (.d (.val (.int .u8 (l.getD n 0)))) rfl (by simp only [Int.toNat_natCast]) ?_
 refine sT 6 26 3 rfl <| e1 34 rfl <| keep [2, 4, 6, 7, 8, 9] rfl <| r1 <| sT 13 34 1 rfl <| sO 14 42 2 rfl <| sT 15 50 3 rfl <| sT 16 58 4 rfl ?_
 refine val 16 (SV.i (l.getD n 0)) rfl (congrArg (fun x => SV.d (D.val (Value.int .i64 x))) (wrap_in ⟨by omega, by omega⟩)) ?_
 refine sAO 17 66 5 rfl ?_
 refine sD 18 74 6 rfl rfl rfl rfl rfl rfl rfl rfl rfl (by omega) ?_
 refine val 18 (SV.i (((adl p (l.take n)).1 + (l.getD n 0)) % 65521)) rfl (congrArg (fun x => SV.d (D.val (Value.int .i64 x))) rfl) ?_
 refine sT 19 82 7 rfl <| s0O 90 8 rfl rfl rfl rfl rfl <| e1 98 rfl <| keep [2, 4, 7, 8, 9] rfl ?_
 refine r0 ?_
 refine sT 20 98 1 rfl <| sO 21 106 2 rfl <| sT 22 114 3 rfl <| sO 23 122 4 rfl <| sAO 24 130 5 rfl ?_
 refine sD 25 138 6 rfl rfl rfl rfl rfl rfl rfl rfl rfl (by omega) ?_
 refine val 25 (SV.i (((adl p (l.take n)).2 + ((adl p (l.take n)).1 + (l.getD n 0))) % 65521)) rfl (congrArg (fun x => SV.d (D.val (Value.int .i64 x))) (by omega)) ?_
 refine sT 26 146 7 rfl <| s0O 154 8 rfl rfl rfl rfl rfl <| e1 162 rfl <| bn <| tn ?_
 refine chval 0 (.cells 133 2 [SV.i (adl p (l.take (n + 1))).1, SV.i (adl p (l.take (n + 1))).2]) rfl (by rw [hst (by omega)]; rfl) ?_
 refine r0 ?_
 refine sAO 27 162 1 rfl <| sT 9 170 2 rfl <| e1 178 rfl <| tn ?_
 exact again ((n + 1 : Nat)) [0, 1] (show (n + 1) ≤ l.length from (by omega)) (show l.length - (n + 1) < l.length - n from (by omega)) rfl ⟨rfl, rfl, rfl, rfl, rfl, trivial⟩ ⟨rfl, rfl, trivial⟩
 try simp only [cs, ne_eq] at hc2
 refine W_exit <| tx <| tx <| bx <| tn <| r1 <| sO 28 10 1 rfl <| s0O 18 2 rfl rfl rfl rfl rfl <| e1 26 rfl <| keep [4] rfl <| W_ret ?_
 obtain rfl : n = l.length := (by omega)
 exact outN (adS (adl p l)) (π := []) (hout := []) Tryd.results71 rfl (by trivial) (by rw [List.take_length]; rfl) rfl rfl trivial ⟨rfl, rfl⟩
theorem psum_any (p : Int × Int) (h1 : 0 ≤ p.1 ∧ p.1 < 65521) (h2 : 0 ≤ p.2 ∧ p.2 < 65521) : Spec Tryd.prog GF 72 [adS p] [] (fun r ho => r = SV.i (p.2 * 65536 + p.1) ∧ ho = []) := by
 refine start 9 0 Tryd.func72 rfl rfl rfl rfl ?_
 refine r1 <| sT 1 0 1 rfl <| sT 2 8 2 rfl <| e1 16 rfl <| keep [1] rfl <| r1 <| sT 3 16 1 rfl <| sO 4 24 2 rfl ?_
 refine sV 5 32 3 rfl (by decide) ?_
 refine val 5 (SV.i (p.2 * 65536)) rfl (congrArg (fun x => SV.d (D.val (Value.int .i64 x))) (shl16 h2.1 h2.2)) ?_
 refine sT 6 40 4 rfl <| sO 7 48 5 rfl <| sO 8 56 6 rfl ?_
 refine val 8 (SV.i (p.2 * 65536 + p.1)) rfl (congrArg (fun x => SV.d (D.val (Value.int .i64 x))) (join16 _ _ (by omega) (by omega) (by omega) (by omega))) ?_
 refine sT 2 64 7 rfl <| e1 72 rfl <| keep [2] rfl <| W_ret ?_
 exact out1 2 (SV.i (p.2 * 65536 + p.1)) (π := []) (hout := []) Tryd.results72 rfl rfl rfl rfl trivial ⟨rfl, rfl⟩
theorem adof_any (l : List Int) (hl : Bytes l) : Spec Tryd.prog GF 55 [u8V l] [] (fun r ho => r = SV.i (adO l) ∧ ho = []) := by
 have hb := adP_bd l
 refine start 7 0 Tryd.func55 rfl rfl rfl rfl ?_
 refine r1 <| sT 2 0 1 rfl <| e1 8 rfl <| keep [0] rfl <| r1 <| sT 3 8 1 rfl <| sT 4 16 2 rfl ?_
 refine c1 (awith_any l hl (1, 0) (by decide) (by decide)) [] [] 5 24 3 rfl rfl rfl rfl rfl rfl rfl rfl Tryd.func71 rfl rfl rfl rfl trivial rfl rfl ?_
 refine c1 (psum_any (adP l) ⟨hb.1, hb.2.1⟩ ⟨hb.2.2.1, hb.2.2.2⟩) [] [] 6 32 4 rfl rfl rfl rfl rfl rfl rfl rfl Tryd.func72 rfl rfl rfl rfl trivial rfl rfl ?_
 refine sT 2 40 5 rfl <| e1 48 rfl <| keep [2] rfl <| W_ret ?_
 exact out1 2 (SV.i (adO l)) (π := []) (hout := []) Tryd.results55 rfl rfl rfl rfl trivial ⟨rfl, rfl⟩
theorem cloneB_any (l : List Int) (hl : l.length ≤ 1048576) : Spec Tryd.prog GF 25 [u8V l] [] (fun r ho => r = .sl 0 0 l.length ∧ ho = [some (u8B l)]) := by
 refine start 8 0 Tryd.func25 rfl rfl rfl rfl ?_
 refine r1 <| sT 2 0 1 rfl <| e1 8 rfl <| keep [0] rfl <| W_seq <| r1 <| sT 3 8 1 rfl ?_
 refine sNilQ 4 16 2 rfl rfl rfl rfl rfl rfl rfl rfl (fun b hb => ?_)
 refine e1 24 rfl <| keep [0, 4] rfl ?_
 refine q1 rfl (fun hc1 => ?_) (fun hc1 => ?_)
 try simp only [cs, ne_eq] at hc1
 obtain rfl : l = [] := List.length_eq_zero_iff.1 (hb hc1)
 refine r1 <| sT 2 24 1 rfl <| e1 32 rfl <| keep [2] rfl ?_
 refine ghostly 2 5 1 (u8F []) rfl ?_
 refine W_ret <| tr ?_
 exact out1 2 (.sl 0 0 0) (π := [32]) (hout := [some (u8B [])]) Tryd.results25 rfl rfl rfl rfl ⟨rfl, trivial⟩ ⟨rfl, rfl⟩
 try simp only [cs, ne_eq] at hc1
 refine W_skip <| tn <| r1 <| sT 5 24 1 rfl <| sT 6 32 2 rfl ?_
 refine sV 7 40 3 rfl ⟨trivial, (by show l.length * 1 ≤ 140737488355328; omega), (by simp only [maxLen]; omega)⟩ ?_
 refine sT 2 48 4 rfl <| e1 56 rfl <| keep [2] rfl <| W_ret ?_
 exact out1 2 (.sl 0 0 l.length) (π := [40]) (hout := [some (u8B l)]) Tryd.results25 rfl rfl rfl rfl ⟨rfl, trivial⟩ ⟨rfl, rfl⟩
theorem first_any (l : List Int) (hl : Bytes l) (q : FstR) (hp : fstR l = q) : Spec Tryd.prog GF 37 [u8V l] [] (fun r ho => r = SV.tup [u8V q.body, SV.i q.e] ∧ ho = []) := by
 have hn := hl.n
 refine start 35 0 Tryd.func37 rfl rfl rfl rfl ?_
 refine r1 <| sT 2 0 1 rfl <| sT 3 8 2 rfl <| e1 16 rfl <| keep [0] rfl <| W_seq <| r1 <| sT 5 16 1 rfl <| sO 6 24 2 rfl <| sO 7 32 3 rfl <| e1 40 rfl <| keep [0, 7] rfl ?_
 refine q1 rfl (fun hc1 => ?_) (fun hc1 => ?_)
 try simp only [cs, ne_eq] at hc1
 refine r1 <| sT 2 40 1 rfl <| sT 3 48 2 rfl <| e1 56 rfl <| keep [2, 3] rfl ?_
 refine nilv 2 1 (u8F []) rfl ?_
 refine W_ret <| tr ?_
 have hq := hp.symm.trans (fst_short (by omega))
 exact out2 2 3 (u8V q.body) (SV.i q.e) (π := []) (hout := []) Tryd.results37 rfl rfl (by rw [hq]; rfl) (by rw [hq]; rfl) rfl rfl trivial ⟨rfl, rfl⟩
 try simp only [cs, ne_eq] at hc1
 have hN := fstN_bd hl (by omega)
 refine W_skip <| tn <| r1 <| sT 8 40 1 rfl ?_
 refine s1w (u8V (l.take 2)) 9 48 2 rfl rfl rfl rfl rfl rfl ⟨by omega, by omega, by omega⟩ (fun M ρ z h => piece0_w (by rfl) (by omega) h) ?_
 refine c1 (fget_any (l.take 2) (bytes_take hl 2) (by rw [List.length_take]; omega)) [] [] 10 56 3 rfl rfl rfl rfl rfl rfl rfl rfl Tryd.func38 rfl rfl rfl rfl trivial rfl rfl ?_
 refine sT 4 64 4 rfl <| e1 72 rfl <| keep [0, 4] rfl <| W_seq <| W_block ?_
 refine cval 4 (SV.i (fstN l : Nat)) rfl (by rw [hN.1]) ?_
 refine r1 <| sT 12 72 1 rfl <| sO 13 80 2 rfl <| sT 11 88 3 rfl <| e1 96 rfl <| keep [0, 4, 11] rfl ?_
 refine q1 rfl (fun hc4 => ?_) (fun hc4 => ?_)
 try simp only [cs, ne_eq] at hc4
 refine r1 <| sT 2 96 1 rfl <| sT 3 104 2 rfl <| e1 112 rfl <| keep [2, 3] rfl ?_
 refine nilv 2 1 (u8F []) rfl ?_
 refine W_ret <| br <| tr ?_
 have hq := hp.symm.trans (fst_size (by omega) (by omega))
 exact out2 2 3 (u8V q.body) (SV.i q.e) (π := []) (hout := []) Tryd.results37 rfl rfl (by rw [hq]; rfl) (by rw [hq]; rfl) rfl rfl trivial ⟨rfl, rfl⟩
 try simp only [cs, ne_eq] at hc4
 refine r1 <| sT 15 96 1 rfl <| sO 16 104 2 rfl <| sAO 17 112 3 rfl <| sT 18 120 4 rfl <| sO 19 128 5 rfl <| sT 14 136 6 rfl <| e1 144 rfl <| keep [0, 4, 14] rfl ?_
 refine q1 rfl (fun hc6 => ?_) (fun hc6 => ?_)
 try simp only [cs, ne_eq] at hc6
 refine r1 <| sT 2 144 1 rfl <| sT 3 152 2 rfl <| e1 160 rfl <| keep [2, 3] rfl ?_
 refine nilv 2 1 (u8F []) rfl ?_
 refine W_ret <| br <| tr ?_
 have hq := hp.symm.trans (fst_short2 (by omega) (by omega) (by omega))
 exact out2 2 3 (u8V q.body) (SV.i q.e) (π := []) (hout := []) Tryd.results37 rfl rfl (by rw [hq]; rfl) (by rw [hq]; rfl) rfl rfl trivial ⟨rfl, rfl⟩
 try simp only [cs, ne_eq] at hc6
 refine rd1 rfl ?_
 refine dT 21 144 1 rfl <| dT 22 152 2 rfl <| dAO 23 160 3 rfl ?_
 refine d1w (u8V (fstB l)) 24 168 4 rfl rfl rfl rfl rfl rfl ⟨by omega, by omega, by omega⟩ (fun M ρ z h => piece_w (by omega) (by omega) h) ?_
 refine dc1 (adof_any (fstB l) (bytes_take (bytes_drop hl 6) _)) [] [] 25 176 5 rfl rfl rfl rfl rfl rfl rfl rfl Tryd.func55 rfl rfl rfl rfl trivial rfl rfl ?_
 refine dT 26 184 6 rfl ?_
 refine d1w (u8V ((l.drop 2).take 4)) 27 192 7 rfl rfl rfl rfl rfl rfl ⟨by omega, by omega, by omega⟩ (fun M ρ z h => piece_w (by omega) (by omega) h) ?_
 refine dc1 (fget_any ((l.drop 2).take 4) (bytes_take (bytes_drop hl 2) _) (by rw [List.length_take]; omega)) [] [] 28 200 8 rfl rfl rfl rfl rfl rfl rfl rfl Tryd.func38 rfl rfl rfl rfl trivial rfl rfl ?_
 refine dO 29 208 9 rfl <| dT 20 216 10 rfl <| de1 224 rfl (by kernel_rfl) <| keep [0, 4, 20] rfl ?_
 refine q1 rfl (fun hc8 => ?_) (fun hc8 => ?_)
 try simp only [cs, ne_eq] at hc8
 refine r1 <| sT 2 224 1 rfl <| sT 3 232 2 rfl <| e1 240 rfl <| keep [2, 3] rfl ?_
 refine nilv 2 1 (u8F []) rfl ?_
 refine W_ret <| br <| tr ?_
 have hq := hp.symm.trans (fst_sum (by omega) (by omega) (by omega) hc8)
 exact out2 2 3 (u8V q.body) (SV.i q.e) (π := []) (hout := []) Tryd.results37 rfl rfl (by rw [hq]; rfl) (by rw [hq]; rfl) rfl rfl trivial ⟨rfl, rfl⟩
 try simp only [cs, ne_eq] at hc8
 refine W_skip <| bn <| tn <| r1 <| sT 30 224 1 rfl <| sT 31 232 2 rfl <| sAO 32 240 3 rfl ?_
 refine s1w (u8V (fstB l)) 33 248 4 rfl rfl rfl rfl rfl rfl ⟨by omega, by omega, by omega⟩ (fun M ρ z h => piece_w (by omega) (by omega) h) ?_
 refine c1 (cloneB_any (fstB l) (by unfold fstB; rw [List.length_take]; omega)) [] [256] 34 256 5 rfl rfl rfl rfl rfl rfl rfl rfl Tryd.func25 rfl rfl rfl rfl trivial rfl rfl ?_
 refine sT 2 264 6 rfl <| sT 3 272 7 rfl <| e1 280 rfl <| keep [2, 3] rfl ?_
 refine freeze 2 256 (fstB l).length rfl rfl (Nat.le_refl _) ?_
 refine W_ret ?_
 have hq := hp.symm.trans (fst_yes (by omega) (by omega) (by omega) hc8)
 exact out2 2 3 (u8V q.body) (SV.i q.e) (π := []) (hout := []) Tryd.results37 rfl rfl (by rw [hq]; rfl) (by rw [hq]; rfl) rfl rfl trivial ⟨rfl, rfl⟩
end Go.Proofs.YtalhangpahffeaaDoor.Nice
namespace Go.Proofs.YtalhangpahffeaaDoor.Nice
open Go
set_option linter.unusedVariables false
set_option linter.unusedSimpArgs false
set_option maxRecDepth 100000
set_option maxHeartbeats 4000000
def recH (b : List Int) : List Int := [(b.length : Int) / 256 % 256, (b.length : Int) % 256, adO b / 16777216 % 256, adO b / 65536 % 256, adO b / 256 % 256, adO b % 256]
def recB (b : List Int) : List Int := recH b ++ b
theorem recB_len (b : List Int) : (recB b).length = 6 + b.length := by unfold recB recH; simp; omega
theorem rec_cat (b : List Int) (i c : Nat) (hi : i < 6 + b.length) (hc : c < 1) : catR (litR 1 [.val (.int .u8 ((b.length : Int) / 256 % 256)), .val (.int .u8 ((b.length : Int) % 256)), .val (.int .u8 (adO b / 16777216 % 256)), .val (.int .u8 (adO b / 65536 % 256)), .val (.int .u8 (adO b / 256 % 256)), .val (.int .u8 (adO b % 256))]) 6 (u8F b) i c = u8F (recB b) i c := by
 obtain rfl : c = 0 := by omega
 unfold catR
 by_cases h : i < 6
 · rw [if_pos h]
   match i, h with
   | 0, _ | 1, _ | 2, _ | 3, _ | 4, _ | 5, _ => rfl
 · rw [if_neg h]
   unfold u8F recB
   have : (recH b ++ b).getD i 0 = b.getD (i - 6) 0 := by
     simp only [List.getD]
     rw [List.getElem?_append_right (by show 6 ≤ i; omega)]; rfl
   rw [this]
theorem open_file (l : List Int) (hl : Bytes l) (q : OpenR) (hp : opened l = q) : Spec Tryd.prog GF 24 [u8V l] [] (fun r ho => r = SV.tup [lstV q.L, SV.i q.n, SV.i q.e] ∧ ho = []) := by
 have hln := hl.n
 refine start 41 0 Tryd.func24 rfl rfl rfl rfl ?_
 refine r1 <| sT 2 0 1 rfl <| sT 3 8 2 rfl <| sT 4 16 3 rfl <| e1 24 rfl <| keep [0] rfl <| r1 <| sT 5 24 1 rfl <| e1 32 rfl <| keep [0, 5] rfl <| r1 <| sT 6 32 1 rfl <| e1 40 rfl <| keep [0, 5, 6] rfl <| W_seq <| W_block ?_
 refine ghostly 5 24 1 (lstF []) rfl ?_
 refine loop (α := Nat × List (List Int)) 1 (fun z => [(0, u8V l), (5, .sl 0 0 (z.2).length), (6, SV.i (z.1))]) (fun z => [some (.rows 24 1 (z.2).length (lstF (z.2)))]) (fun z => (z.1) ≤ l.length ∧ (z.2).length ≤ 200 ∧ opened l = opn l (201 - (z.2).length) (z.1) (z.2)) (fun z => l.length - (z.1)) (((0, []) : Nat × List (List Int))) [40] (fun _ => rfl) (show (0) ≤ l.length ∧ ([]).length ≤ 200 ∧ opened l = opn l (201 - ([]).length) (0) ([]) from ⟨Nat.zero_le _, Nat.zero_le _, rfl⟩) rfl ⟨rfl, rfl, rfl, trivial⟩ ⟨rfl, trivial⟩ (fun z hx => ?_)
 obtain ⟨n, L⟩ := z
 show W _ _ _ ⟨tOf [(0, u8V l), (5, .sl 0 0 L.length), (6, SV.i n)], hOf [some (.rows 24 1 L.length (lstF L))], 1⟩
 have hx : n ≤ l.length ∧ L.length ≤ 200 ∧ opened l = opn l (201 - L.length) n L := hx
 obtain ⟨hn, hL, hrun⟩ := hx
 refine W_seq <| r1 <| sT 9 1 1 rfl <| sT 10 9 2 rfl <| sO 11 17 3 rfl <| sO 12 25 4 rfl <| e1 33 rfl <| keep [0, 5, 6, 12] rfl ?_
 refine q1 rfl (fun hc3 => ?_) (fun hc3 => ?_)
 try simp only [cs, ne_eq] at hc3
 refine W_skip <| tn <| W_block <| W_seq <| r1 <| sT 13 33 1 rfl <| sO 14 41 2 rfl <| sO 15 49 3 rfl <| e1 57 rfl <| keep [0, 5, 6, 15] rfl ?_
 refine q1 rfl (fun hc4 => ?_) (fun hc4 => ?_)
 try simp only [cs, ne_eq] at hc4
 refine r1 <| sT 16 57 1 rfl <| sT 17 65 2 rfl <| sT 2 73 3 rfl <| sT 3 81 4 rfl <| sT 4 89 5 rfl <| e1 97 rfl <| keep [2, 3, 4] rfl ?_
 refine freeze 2 0 L.length rfl rfl (Nat.le_refl _) ?_
 refine W_ret <| tr <| br <| tr <| br <| tr ?_
 have hq := hp.symm.trans (hrun.trans (opn_full (by omega) (by omega) (by omega)))
 exact out3 2 3 4 (lstV q.L) (SV.i q.n) (SV.i q.e) (π := []) (hout := []) Tryd.results24 rfl rfl rfl (by rw [hq]; rfl) (by rw [hq]; rfl) (by rw [hq]; rfl) rfl rfl trivial ⟨rfl, rfl⟩
 try simp only [cs, ne_eq] at hc4
 refine W_skip <| tn <| r1 <| sT 19 57 1 rfl <| sT 20 65 2 rfl ?_
 refine s1w (u8V (l.drop n)) 21 73 3 rfl rfl rfl rfl rfl rfl ⟨by omega, by omega, by omega⟩ (fun M ρ z h => drop_w (by omega) h) ?_
 refine c1 (first_any (l.drop n) (bytes_drop hl n) _ rfl) [] [] 22 81 4 rfl rfl rfl rfl rfl rfl rfl rfl Tryd.func37 rfl rfl rfl rfl trivial rfl rfl ?_
 refine sT 18 89 5 rfl <| sT 23 97 6 rfl <| sT 24 105 7 rfl <| sT 7 113 8 rfl <| sT 8 121 9 rfl <| e1 129 rfl <| keep [0, 5, 6, 7, 8] rfl <| W_seq <| r1 <| sT 25 129 1 rfl <| sO 26 137 2 rfl <| e1 145 rfl <| keep [0, 5, 6, 7, 8, 26] rfl ?_
 refine q1 rfl (fun hc7 => ?_) (fun hc7 => ?_)
 try simp only [cs, ne_eq] at hc7
 refine r1 <| sT 27 145 1 rfl <| sT 28 153 2 rfl <| sT 29 161 3 rfl <| sT 2 169 4 rfl <| sT 3 177 5 rfl <| sT 4 185 6 rfl <| e1 193 rfl <| keep [2, 3, 4] rfl ?_
 refine freeze 2 0 L.length rfl rfl (Nat.le_refl _) ?_
 refine W_ret <| tr <| br <| tr <| br <| tr ?_
 have hq := hp.symm.trans (hrun.trans (opn_bad (by omega) (by omega) (by omega) rfl hc7))
 exact out3 2 3 4 (lstV q.L) (SV.i q.n) (SV.i q.e) (π := []) (hout := []) Tryd.results24 rfl rfl rfl (by rw [hq]; rfl) (by rw [hq]; rfl) (by rw [hq]; rfl) rfl rfl trivial ⟨rfl, rfl⟩
 try simp only [cs, ne_eq] at hc7
 have hbl := fst_ok hc7
 have hbl2 : (fstR (l.drop n)).body.length ≤ 4000 := (by rw [hbl.2.2.2.2.1, hbl.2.2.2.2.2]; omega)
 refine W_skip <| tn <| r1 <| sT 30 145 1 rfl <| sT 31 153 2 rfl <| sT 32 161 3 rfl ?_
 refine sV 33 169 4 rfl ⟨Nat.le_refl _, trivial, (by show (L.length + 1) * 24 ≤ 140737488355328; omega), (by simp only [maxLen]; omega)⟩ ?_
 refine sT 5 177 5 rfl <| e1 185 rfl <| keep [0, 5, 6, 7] rfl ?_
 refine rowsc 169 (L ++ [(fstR (l.drop n)).body]).length (lstF (L ++ [(fstR (l.drop n)).body])) rfl (by simp) (fun i c hi hc => lst_cat L _ i c hi hc) ?_
 refine cval 5 (.sl 169 0 (L ++ [(fstR (l.drop n)).body]).length) rfl (by simp) ?_
 refine r0 ?_
 refine sT 34 185 1 rfl <| sT 35 193 2 rfl <| sO 36 201 3 rfl <| sAO 37 209 4 rfl <| sAO 38 217 5 rfl <| sT 6 225 6 rfl <| e1 233 rfl <| bn <| tn ?_
 have hok := fst_ok hc7
 rw [List.length_drop] at hok
 exact again (((n + (6 + (fstR (l.drop n)).body.length), L ++ [(fstR (l.drop n)).body]) : Nat × List (List Int))) [169] (show (n + (6 + (fstR (l.drop n)).body.length)) ≤ l.length ∧ (L ++ [(fstR (l.drop n)).body]).length ≤ 200 ∧ opened l = opn l (201 - (L ++ [(fstR (l.drop n)).body]).length) (n + (6 + (fstR (l.drop n)).body.length)) (L ++ [(fstR (l.drop n)).body]) from ⟨by rw [hok.2.2.2.2.1, hok.2.2.2.2.2]; omega, by simp; omega, (by rw [hrun, opn_go (by omega) (by omega) (by omega) hc7, List.length_append, List.length_singleton, show 201 - L.length - 1 = 201 - (L.length + 1) by omega])⟩) (show l.length - (n + (6 + (fstR (l.drop n)).body.length)) < l.length - n from (by omega)) rfl ⟨rfl, rfl, rfl, trivial⟩ ⟨rfl, trivial⟩
 try simp only [cs, ne_eq] at hc3
 refine W_exit <| tx <| tx <| bx <| tn <| r1 <| sT 39 33 1 rfl <| sT 40 41 2 rfl <| sT 2 49 3 rfl <| sT 3 57 4 rfl <| sT 4 65 5 rfl <| e1 73 rfl <| keep [2, 3, 4] rfl ?_
 refine freeze 2 0 L.length rfl rfl (Nat.le_refl _) ?_
 refine W_ret ?_
 have hq := hp.symm.trans (hrun.trans (opn_end (by omega)))
 exact out3 2 3 4 (lstV q.L) (SV.i q.n) (SV.i q.e) (π := []) (hout := []) Tryd.results24 rfl rfl rfl (by rw [hq]; rfl) (by rw [hq]; rfl) (by rw [hq]; rfl) rfl rfl trivial ⟨rfl, rfl⟩
theorem rmore_any (l : List Int) (hl : Bytes l) : Spec Tryd.prog GF 54 [SV.i 1, u8V l] [] (fun r ho => r = SV.tup [SV.i (adO l), SV.i 0] ∧ ho = []) := by
 have hl2 := hl.b
 have hln := hl.n
 refine start 50 0 Tryd.func54 rfl rfl rfl rfl ?_
 refine r1 <| sT 4 0 1 rfl <| sT 5 8 2 rfl <| e1 16 rfl <| keep [0, 1] rfl <| r1 <| sT 10 16 1 rfl ?_
 refine sD 11 24 2 rfl rfl rfl rfl rfl rfl rfl rfl rfl (by omega) ?_
 refine val 11 (SV.i 1) rfl rfl ?_
 refine sT 6 32 3 rfl <| e1 40 rfl <| keep [0, 1, 6] rfl <| r1 <| sT 12 40 1 rfl ?_
 refine sD 13 48 2 rfl rfl rfl rfl rfl rfl rfl rfl rfl (by omega) ?_
 refine val 13 (SV.i 0) rfl rfl ?_
 refine sT 7 56 3 rfl <| e1 64 rfl <| keep [0, 1, 6, 7] rfl <| W_seq <| r1 <| sT 14 64 1 rfl <| sO 15 72 2 rfl <| sT 16 80 3 rfl ?_
 refine ask 16 rfl (fun hg3_16 => ?_) (fun hg3_16 => ?_)
 try simp only [cs, ne_eq] at hg3_16
 exfalso; simp at hg3_16
 try simp only [cs, ne_eq] at hg3_16
 refine gT 2 false 16 4 rfl rfl <| sT 17 88 4 rfl <| gT 2 false 16 5 rfl rfl <| sO 18 96 5 rfl <| sT 19 104 6 rfl <| sT 20 112 7 rfl ?_
 refine ask 20 rfl (fun hg3_20 => ?_) (fun hg3_20 => ?_)
 try simp only [cs, ne_eq] at hg3_20
 exfalso; simp at hg3_20
 try simp only [cs, ne_eq] at hg3_20
 refine gT 6 false 20 8 rfl rfl <| sT 21 120 8 rfl <| gT 6 false 20 9 rfl rfl <| sO 22 128 9 rfl <| sT 23 136 10 rfl <| e1 144 rfl <| keep [1, 6, 7, 23] rfl ?_
 refine q1 rfl (fun hc3 => ?_) (fun hc3 => ?_)
 exfalso; simp at hc3
 try simp only [cs, ne_eq] at hc3
 refine W_skip <| tn <| W_seq <| r1 <| sT 24 144 1 rfl <| sO 25 152 2 rfl <| sT 26 160 3 rfl <| e1 168 rfl <| keep [6, 7, 24, 25, 26] rfl <| W_block ?_
 refine loop (α := Nat) 0 (fun n => [(6, SV.i (adl (1, 0) (l.take (n))).1), (7, SV.i (adl (1, 0) (l.take (n))).2), (24, u8V l), (25, SV.i l.length), (26, SV.i (n))]) (fun n => []) (fun n => (n) ≤ l.length) (fun n => l.length - (n)) (((0) : Nat)) [] (fun _ => rfl) (show (0) ≤ l.length from (Nat.zero_le _)) rfl ⟨rfl, rfl, rfl, rfl, rfl, trivial⟩ trivial (fun n hx => ?_)
 show W _ _ _ ⟨tOf [(6, SV.i (adl (1, 0) (l.take n)).1), (7, SV.i (adl (1, 0) (l.take n)).2), (24, u8V l), (25, SV.i l.length), (26, SV.i n)], hOf [], 0⟩
 have hx : n ≤ l.length := hx
 have hb := adl_take_bd (1, 0) l n (by decide) (by decide)
 have hx8 := hl2 n
 have hst := adl_take (1, 0) l n
 refine r1 <| sO 27 0 1 rfl <| e1 8 rfl <| keep [6, 7, 24, 25, 26, 27] rfl <| W_seq ?_
 refine q1 rfl (fun hc6 => ?_) (fun hc6 => ?_)
 try simp only [cs, ne_eq] at hc6
 refine W_skip <| tn <| W_seq <| W_block <| r1 <| sO 28 8 1 rfl <| sO 29 16 2 rfl ?_
 refine val 29 (.d (.val (.int .u8 (l.getD n 0)))) rfl (by simp only [Int.toNat_natCast]) ?_
 refine sT 9 24 3 rfl <| e1 32 rfl <| keep [6, 7, 9, 24, 25, 26] rfl <| r1 <| sT 30 32 1 rfl <| sT 31 40 2 rfl <| sT 32 48 3 rfl ?_
 refine val 32 (SV.i (l.getD n 0)) rfl (congrArg (fun x => SV.d (D.val (Value.int .i64 x))) (wrap_in ⟨by omega, by omega⟩)) ?_
 refine sAO 33 56 4 rfl <| sT 6 64 5 rfl <| e1 72 rfl <| keep [6, 7, 24, 25, 26] rfl <| W_seq <| W_block ?_
 refine loop (α := Int) 0 (fun a => [(6, SV.i (a)), (7, SV.i (adl (1, 0) (l.take n)).2), (24, u8V l), (25, SV.i l.length), (26, SV.i n)]) (fun a => []) (fun a => 0 ≤ (a) ∧ (a) < 131072 ∧ (a) % 65521 = (((adl (1, 0) (l.take n)).1 + (l.getD n 0)) % 65521)) (fun a => (a).toNat) ((((adl (1, 0) (l.take n)).1 + (l.getD n 0)) : Int)) [] (fun _ => rfl) (show 0 ≤ ((adl (1, 0) (l.take n)).1 + (l.getD n 0)) ∧ ((adl (1, 0) (l.take n)).1 + (l.getD n 0)) < 131072 ∧ ((adl (1, 0) (l.take n)).1 + (l.getD n 0)) % 65521 = (((adl (1, 0) (l.take n)).1 + (l.getD n 0)) % 65521) from ⟨by omega, by omega, rfl⟩) rfl ⟨rfl, rfl, rfl, rfl, rfl, trivial⟩ trivial (fun a hx => ?_)
 show W _ _ _ ⟨tOf [(6, SV.i a), (7, SV.i (adl (1, 0) (l.take n)).2), (24, u8V l), (25, SV.i l.length), (26, SV.i n)], hOf [], 0⟩
 have hx : 0 ≤ a ∧ a < 131072 ∧ a % 65521 = (((adl (1, 0) (l.take n)).1 + (l.getD n 0)) % 65521) := hx
 obtain ⟨ha0, ha1, ha2⟩ := hx
 refine W_seq <| r1 <| sT 34 0 1 rfl <| sO 35 8 2 rfl <| e1 16 rfl <| keep [6, 7, 24, 25, 26, 35] rfl ?_
 refine q1 rfl (fun hc9 => ?_) (fun hc9 => ?_)
 try simp only [cs, ne_eq] at hc9
 refine W_skip <| tn <| W_block ?_
 refine r0 ?_
 refine sT 36 16 1 rfl <| sAO 37 24 2 rfl <| sT 6 32 3 rfl <| e1 40 rfl <| bn <| tn ?_
 exact again ((a - 65521 : Int)) [] (show 0 ≤ (a - 65521) ∧ (a - 65521) < 131072 ∧ (a - 65521) % 65521 = (((adl (1, 0) (l.take n)).1 + (l.getD n 0)) % 65521) from ⟨by omega, by omega, by omega⟩) (show (a - 65521).toNat < a.toNat from (by omega)) rfl ⟨rfl, rfl, rfl, rfl, rfl, trivial⟩ trivial
 try simp only [cs, ne_eq] at hc9
 refine W_exit <| tx <| tx <| bx <| tn ?_
 obtain rfl : a = (((adl (1, 0) (l.take n)).1 + (l.getD n 0)) % 65521) := (by omega)
 refine r1 <| sT 38 16 1 rfl <| sT 39 24 2 rfl <| sAO 40 32 3 rfl <| sT 7 40 4 rfl <| e1 48 rfl <| keep [6, 7, 24, 25, 26] rfl <| W_block ?_
 refine loop (α := Int) 0 (fun b => [(6, SV.i (((adl (1, 0) (l.take n)).1 + (l.getD n 0)) % 65521)), (7, SV.i (b)), (24, u8V l), (25, SV.i l.length), (26, SV.i n)]) (fun b => []) (fun b => 0 ≤ (b) ∧ (b) < 131072 ∧ (b) % 65521 = ((adl (1, 0) (l.take n)).2 + (((adl (1, 0) (l.take n)).1 + (l.getD n 0)) % 65521)) % 65521) (fun b => (b).toNat) ((((adl (1, 0) (l.take n)).2 + (((adl (1, 0) (l.take n)).1 + (l.getD n 0)) % 65521)) : Int)) [] (fun _ => rfl) (show 0 ≤ ((adl (1, 0) (l.take n)).2 + (((adl (1, 0) (l.take n)).1 + (l.getD n 0)) % 65521)) ∧ ((adl (1, 0) (l.take n)).2 + (((adl (1, 0) (l.take n)).1 + (l.getD n 0)) % 65521)) < 131072 ∧ ((adl (1, 0) (l.take n)).2 + (((adl (1, 0) (l.take n)).1 + (l.getD n 0)) % 65521)) % 65521 = ((adl (1, 0) (l.take n)).2 + (((adl (1, 0) (l.take n)).1 + (l.getD n 0)) % 65521)) % 65521 from ⟨by omega, by omega, rfl⟩) rfl ⟨rfl, rfl, rfl, rfl, rfl, trivial⟩ trivial (fun b hx => ?_)
 show W _ _ _ ⟨tOf [(6, SV.i (((adl (1, 0) (l.take n)).1 + (l.getD n 0)) % 65521)), (7, SV.i b), (24, u8V l), (25, SV.i l.length), (26, SV.i n)], hOf [], 0⟩
 have hx : 0 ≤ b ∧ b < 131072 ∧ b % 65521 = ((adl (1, 0) (l.take n)).2 + (((adl (1, 0) (l.take n)).1 + (l.getD n 0)) % 65521)) % 65521 := hx
 obtain ⟨hb0, hb1, hb2⟩ := hx
 refine W_seq <| r1 <| sT 41 0 1 rfl <| sO 42 8 2 rfl <| e1 16 rfl <| keep [6, 7, 24, 25, 26, 42] rfl ?_
 refine q1 rfl (fun hc12 => ?_) (fun hc12 => ?_)
 try simp only [cs, ne_eq] at hc12
 refine W_skip <| tn <| W_block ?_
 refine r0 ?_
 refine sT 43 16 1 rfl <| sAO 44 24 2 rfl <| sT 7 32 3 rfl <| e1 40 rfl <| bn <| tn ?_
 exact again ((b - 65521 : Int)) [] (show 0 ≤ (b - 65521) ∧ (b - 65521) < 131072 ∧ (b - 65521) % 65521 = ((adl (1, 0) (l.take n)).2 + (((adl (1, 0) (l.take n)).1 + (l.getD n 0)) % 65521)) % 65521 from ⟨by omega, by omega, by omega⟩) (show (b - 65521).toNat < b.toNat from (by omega)) rfl ⟨rfl, rfl, rfl, rfl, rfl, trivial⟩ trivial
 try simp only [cs, ne_eq] at hc12
 refine W_exit <| tx <| tx <| bx <| bn <| tn ?_
 refine cval 7 (SV.i (adl (1, 0) (l.take (n + 1))).2) rfl (by rw [hst (by omega)]; exact congrArg SV.i (by show b = ((adl (1, 0) (l.take n)).2 + ((adl (1, 0) (l.take n)).1 + (l.getD n 0))) % 65521; omega)) ?_
 refine cval 6 (SV.i (adl (1, 0) (l.take (n + 1))).1) rfl (by rw [hst (by omega)]; rfl) ?_
 refine r0 ?_
 refine sAO 45 16 1 rfl <| sT 26 24 2 rfl <| e1 32 rfl <| tn ?_
 exact again ((n + 1 : Nat)) [] (show (n + 1) ≤ l.length from (by omega)) (show l.length - (n + 1) < l.length - n from (by omega)) rfl ⟨rfl, rfl, rfl, rfl, rfl, trivial⟩ trivial
 try simp only [cs, ne_eq] at hc6
 refine W_exit <| tx <| tx <| bx <| tn ?_
 obtain rfl : n = l.length := (by omega)
 have hz := adP_bd l
 refine cval 7 (SV.i (adP l).2) rfl (by rw [List.take_length]; rfl) ?_
 refine cval 6 (SV.i (adP l).1) rfl (by rw [List.take_length]; rfl) ?_
 refine r1 <| sT 46 8 1 rfl <| sAO 47 16 2 rfl <| sT 48 24 3 rfl <| sAO 49 32 4 rfl <| sT 4 40 5 rfl <| sT 5 48 6 rfl <| e1 56 rfl <| keep [4, 5] rfl <| W_ret ?_
 exact out2 4 5 (SV.i (adO l)) (SV.i 0) (π := []) (hout := []) Tryd.results54 rfl rfl (congrArg (fun x => SV.d (D.val (Value.int .i64 x))) (by unfold adO; omega)) rfl rfl rfl trivial ⟨rfl, rfl⟩
end Go.Proofs.YtalhangpahffeaaDoor.Nice
namespace Go.Proofs.YtalhangpahffeaaDoor.Nice
open Go
set_option linter.unusedVariables false
set_option linter.unusedSimpArgs false
set_option maxRecDepth 100000
set_option maxHeartbeats 4000000
theorem rrec_any (l : List Int) (hl : Bytes l) (h4 : l.length ≤ 4000) : Spec Tryd.prog GF 35 [u8V l] [] (fun r ho => r = SV.tup [u8V (recB l), SV.i 0] ∧ ho = []) := by
 have hln := hl.n
 have hs := adO_bd l
 refine start 37 0 Tryd.func35 rfl rfl rfl rfl ?_
 refine r1 <| sT 2 0 1 rfl <| sT 3 8 2 rfl <| e1 16 rfl <| keep [0] rfl <| W_seq <| r1 <| sT 7 16 1 rfl <| sO 8 24 2 rfl <| sO 9 32 3 rfl <| e1 40 rfl <| keep [0, 9] rfl ?_
 refine q1 rfl (fun hc1 => ?_) (fun hc1 => ?_)
 exfalso; simp at hc1; omega
 try simp only [cs, ne_eq] at hc1
 refine W_skip <| tn <| r1 <| sT 11 40 1 rfl ?_
 refine c1 (rmore_any l hl) [] [] 12 48 2 rfl rfl rfl rfl rfl rfl rfl rfl Tryd.func54 rfl rfl rfl rfl trivial rfl rfl ?_
 refine sT 10 56 3 rfl <| sT 13 64 4 rfl <| sT 14 72 5 rfl <| sT 4 80 6 rfl <| sT 5 88 7 rfl <| e1 96 rfl <| keep [0, 4] rfl <| r1 <| sT 15 96 1 rfl <| sO 16 104 2 rfl ?_
 refine sD 17 112 3 rfl rfl rfl rfl rfl rfl rfl rfl rfl (by omega) ?_
 refine sT 18 120 4 rfl ?_
 refine val 18 (.d (.val (.int .u8 ((l.length : Int) / 256 % 256)))) rfl (congrArg (fun x => SV.d (D.val (Value.int .u8 x))) rfl) ?_
 refine sT 19 128 5 rfl <| sO 20 136 6 rfl <| sT 21 144 7 rfl ?_
 refine val 21 (.d (.val (.int .u8 ((l.length : Int) % 256)))) rfl (congrArg (fun x => SV.d (D.val (Value.int .u8 x))) rfl) ?_
 refine sT 22 152 8 rfl ?_
 refine sD 23 160 9 rfl rfl rfl rfl rfl rfl rfl rfl rfl (by omega) ?_
 refine sT 24 168 10 rfl ?_
 refine val 24 (.d (.val (.int .u8 (adO l / 16777216 % 256)))) rfl (congrArg (fun x => SV.d (D.val (Value.int .u8 x))) rfl) ?_
 refine sT 25 176 11 rfl ?_
 refine sD 26 184 12 rfl rfl rfl rfl rfl rfl rfl rfl rfl (by omega) ?_
 refine sT 27 192 13 rfl ?_
 refine val 27 (.d (.val (.int .u8 (adO l / 65536 % 256)))) rfl (congrArg (fun x => SV.d (D.val (Value.int .u8 x))) rfl) ?_
 refine sT 28 200 14 rfl ?_
 refine sD 29 208 15 rfl rfl rfl rfl rfl rfl rfl rfl rfl (by omega) ?_
 refine sT 30 216 16 rfl ?_
 refine val 30 (.d (.val (.int .u8 (adO l / 256 % 256)))) rfl (congrArg (fun x => SV.d (D.val (Value.int .u8 x))) rfl) ?_
 refine sT 31 224 17 rfl <| sT 32 232 18 rfl ?_
 refine val 32 (.d (.val (.int .u8 (adO l % 256)))) rfl (congrArg (fun x => SV.d (D.val (Value.int .u8 x))) rfl) ?_
 refine sT 33 240 19 rfl <| sT 6 248 20 rfl <| e1 256 rfl <| keep [0, 6] rfl <| r1 <| sT 34 256 1 rfl <| sT 35 264 2 rfl ?_
 refine sV 36 272 3 rfl ⟨trivial, (by show (6 + l.length) * 1 ≤ 140737488355328; omega), (by simp only [maxLen]; omega)⟩ ?_
 refine sT 2 280 4 rfl <| sT 3 288 5 rfl <| e1 296 rfl <| keep [2, 3] rfl ?_
 refine rowsc 272 (recB l).length (u8F (recB l)) rfl (recB_len l).symm (fun i c hi hc => rec_cat l i c hi hc) ?_
 refine freeze 2 272 (6 + l.length) rfl rfl (by rw [recB_len]; exact Nat.le_refl _) ?_
 refine cval 2 (u8V (recB l)) rfl (by unfold u8V; rw [recB_len]; rfl) ?_
 refine W_ret ?_
 exact out2 2 3 (u8V (recB l)) (SV.i 0) (π := []) (hout := []) Tryd.results35 rfl rfl rfl rfl rfl rfl trivial ⟨rfl, rfl⟩
end Go.Proofs.YtalhangpahffeaaDoor.Nice
namespace Go.Proofs.YtalhangpahffeaaDoor.Nice
open Go Go.Proofs
set_option linter.unusedVariables false
set_option linter.unusedSimpArgs false
set_option maxRecDepth 100000
set_option maxHeartbeats 4000000
def byteAt (s : ByteArray) (i : Nat) : Int := ((s.data.getD i 0).toNat : Int)
def nmL (s : ByteArray) : List Int := (List.range s.size).map (byteAt s)
theorem nmL_len (s : ByteArray) : (nmL s).length = s.size := by simp [nmL]
theorem nmL_get (s : ByteArray) (i : Nat) (h : i < s.size) : (nmL s).getD i 0 = byteAt s i := by simp [nmL, List.getD, h]
theorem byteAt_bd (s : ByteArray) (i : Nat) : 0 ≤ byteAt s i ∧ byteAt s i ≤ 255 := by
 unfold byteAt
 have := (s.data.getD i 0).toNat_lt
 omega
theorem u8_cat {A B : List Int} (i c : Nat) (hi : i < A.length + B.length) (hc : c < 1) : catR (u8F A) A.length (u8F B) i c = u8F (A ++ B) i c := by
 unfold catR u8F
 by_cases h : i < A.length
 · rw [if_pos h]; simp [List.getD, List.getElem?_append_left h]
 · rw [if_neg h]; simp [List.getD, List.getElem?_append_right (by omega : A.length ≤ i)]
theorem u8_one {A : List Int} {b b' : Int} (hb : b' = b) (i c : Nat) (hi : i < A.length + 1) (hc : c < 1) : catR (u8F A) A.length (litR 1 [.val (.int .u8 b')]) i c = u8F (A ++ [b]) i c := by
 subst hb
 rw [← u8_cat i c hi hc]
 unfold catR
 split
 · rfl
 · obtain rfl : c = 0 := by omega
   have : i - A.length = 0 := by omega
   rw [this]; rfl
theorem u8_str {A : List Int} {s : ByteArray} (i c : Nat) (hi : i < A.length + s.size) (hc : c < 1) : catR (u8F A) A.length (strBytesF s) i c = u8F (A ++ nmL s) i c := by
 rw [← u8_cat i c (by rw [nmL_len]; exact hi) hc]
 unfold catR
 split
 · rfl
 · obtain rfl : c = 0 := by omega
   unfold u8F strBytesF
   rw [nmL_get s _ (by omega)]; rfl
theorem nmL_bytes (s : ByteArray) (h : s.size ≤ 1000) : Bytes (nmL s) := by
 refine ⟨by rw [nmL_len]; omega, fun k => ?_⟩
 by_cases hk : k < s.size
 · rw [nmL_get s k hk]; exact byteAt_bd s k
 · rw [List.getD_eq_getElem?_getD, List.getElem?_eq_none (by rw [nmL_len]; omega)]; decide
theorem bytes_app {x y : List Int} (hx : Bytes x) (hy : Bytes y) (h : x.length + y.length ≤ 140737488351232) : Bytes (x ++ y) := by
 refine ⟨by simpa using h, fun k => ?_⟩
 by_cases hk : k < x.length
 · have := hx.b k
   rwa [List.getD_eq_getElem?_getD, List.getElem?_append_left hk, ← List.getD_eq_getElem?_getD]
 · have := hy.b (k - x.length)
   rwa [List.getD_eq_getElem?_getD, List.getElem?_append_right (by omega), ← List.getD_eq_getElem?_getD]
theorem bytes_of {l : List Int} (hn : l.length ≤ 140737488351232) (h : ∀ x, x ∈ l → 0 ≤ x ∧ x ≤ 255) : Bytes l := by
 refine ⟨hn, fun k => ?_⟩
 by_cases hk : k < l.length
 · rw [show l.getD k 0 = l[k] by simp [List.getD, hk]]; exact h _ (List.getElem_mem hk)
 · rw [List.getD_eq_getElem?_getD, List.getElem?_eq_none (by omega)]; decide
/- the bytes of a number, greatest first -/
def putT (n : Nat) (v : Int) (k : Nat) : List Int := (List.range k).map fun j => v / 2 ^ (8 * (n - 1 - j)) % 256
def putB (n : Nat) (v : Int) : List Int := putT n v n
theorem putT_len (n : Nat) (v : Int) (k : Nat) : (putT n v k).length = k := by simp [putT]
theorem putT_succ (n : Nat) (v : Int) (k : Nat) : putT n v (k + 1) = putT n v k ++ [v / 2 ^ (8 * (n - 1 - k)) % 256] := by simp [putT, List.range_succ]
theorem putB_bytes (n : Nat) (v : Int) (h : n ≤ 100) : Bytes (putB n v) := by
 refine bytes_of (by unfold putB; rw [putT_len]; omega) fun x hx => ?_
 obtain ⟨j, _, rfl⟩ := List.mem_map.1 hx
 generalize v / 2 ^ (8 * (n - 1 - j)) = q
 omega
theorem ofInt_mod {a b : Int} (h : a % 18446744073709551616 = b % 18446744073709551616) : BitVec.ofInt 64 a = BitVec.ofInt 64 b := by
 apply BitVec.eq_of_toNat_eq
 rw [BitVec.toNat_ofInt, BitVec.toNat_ofInt]
 show (a % 18446744073709551616).toNat = (b % 18446744073709551616).toNat
 rw [h]
theorem wrap_cong {a b : Int} (h : a % 18446744073709551616 = b % 18446744073709551616) : IntKind.i64.wrap a = IntKind.i64.wrap b := by
 rw [IntKind.wrap_i64, IntKind.wrap_i64]; omega
theorem wrap_emod (n : Int) : IntKind.i64.wrap n % 18446744073709551616 = n % 18446744073709551616 := by
 rw [IntKind.wrap_i64]; omega
theorem or_wr (A : Int) {x : Int} (h0 : 0 ≤ x) (h1 : x ≤ 255) : bits .or .i64 (IntKind.i64.wrap (A * 256)) x = IntKind.i64.wrap (A * 256 + x) := by
 show IntKind.i64.wrap ((BitVec.ofInt 64 (IntKind.i64.wrap (A * 256)) ||| BitVec.ofInt 64 x).toNat : Int) = _
 rw [ofInt_mod (wrap_emod _), BitVec.toNat_or, BitVec.toNat_ofInt, BitVec.toNat_ofInt]
 obtain ⟨y, rfl⟩ := Int.eq_ofNat_of_zero_le h0
 show IntKind.i64.wrap (((A * 256 % 18446744073709551616).toNat ||| ((y : Int) % 18446744073709551616).toNat : Nat) : Int) = _
 obtain ⟨m, hm⟩ : ∃ m : Nat, (A * 256 % 18446744073709551616).toNat = m * 256 := ⟨(A * 256 % 18446744073709551616).toNat / 256, by omega⟩
 rw [hm, show ((y : Int) % 18446744073709551616).toNat = y by omega, nat_join 8 _ _ (by omega) (by omega)]
 apply wrap_cong
 omega
theorem shl_wr (A : Int) : IntKind.i64.wrap (IntKind.i64.wrap A * 2 ^ (min (8 : Int).toNat 64)) = IntKind.i64.wrap (A * 256) := by
 apply wrap_cong
 show IntKind.i64.wrap A * 256 % _ = _
 have := wrap_emod A
 omega
theorem getB_snoc (l : List Int) (x : Int) : getB (l ++ [x]) = getB l * 256 + x := by simp [getB]
theorem getB_put (n : Nat) (v : Int) (hv : 0 ≤ v) : ∀ k, k ≤ n → getB (putT n v k) = v / 2 ^ (8 * (n - k)) - v / 2 ^ (8 * n) * 2 ^ (8 * k)
 | 0, _ => by simp [putT, getB]
 | k + 1, h => by
   rw [putT_succ, getB_snoc, getB_put n v hv k (by omega)]
   have e1 : (2 : Int) ^ (8 * (n - k)) = 2 ^ (8 * (n - 1 - k)) * 256 := by
     rw [show 8 * (n - k) = 8 * (n - 1 - k) + 8 by omega, Int.pow_add]; rfl
   have e2 : (2 : Int) ^ (8 * (k + 1)) = 2 ^ (8 * k) * 256 := by
     rw [show 8 * (k + 1) = 8 * k + 8 by omega, Int.pow_add]; rfl
   rw [e1, e2, ← Int.ediv_ediv_of_nonneg (Int.le_of_lt (Int.pow_pos (by decide))), show n - (k + 1) = n - 1 - k by omega, ← Int.mul_assoc]
   generalize v / 2 ^ (8 * (n - 1 - k)) = q
   generalize v / 2 ^ (8 * n) * 2 ^ (8 * k) = r
   omega
theorem getB_putB {v : Int} (hv : 0 ≤ v) {n : Nat} (h : v < 2 ^ (8 * n)) : getB (putB n v) = v := by
 unfold putB
 rw [getB_put n v hv n (Nat.le_refl _), Nat.sub_self, Nat.mul_zero, Int.pow_zero, Int.ediv_one, Int.ediv_eq_zero_of_lt hv h]
 omega
def xorL (x : Int) : Int := if x < 0 then x + 9223372036854775808 else x - 9223372036854775808
theorem nat_xor_top {m : Nat} (h : m < 9223372036854775808) : m ^^^ 9223372036854775808 = 9223372036854775808 + m := by
 show m ^^^ 2 ^ 63 = 2 ^ 63 + m
 apply Nat.eq_of_testBit_eq
 intro i
 rw [Nat.testBit_xor, Nat.testBit_two_pow]
 rcases Nat.lt_trichotomy i 63 with hi | hi | hi
 · rw [Nat.testBit_two_pow_add_gt hi]
   have : ¬ 63 = i := by omega
   simp [this]
 · subst hi
   rw [Nat.testBit_two_pow_add_eq]; simp
 · have h1 : m < 2 ^ i := Nat.lt_of_lt_of_le h (show 2 ^ 63 ≤ 2 ^ i from Nat.pow_le_pow_right (by decide) (by omega))
   have h2 : 2 ^ 63 + m < 2 ^ i := Nat.lt_of_lt_of_le (m := 2 ^ 64) (by omega) (show 2 ^ 64 ≤ 2 ^ i from Nat.pow_le_pow_right (by decide) (by omega))
   rw [Nat.testBit_lt_two_pow h1, Nat.testBit_lt_two_pow h2]
   have : ¬ 63 = i := by omega
   simp [this]
theorem xor_least {x : Int} (h1 : -9223372036854775808 ≤ x) (h2 : x < 9223372036854775808) : bits .xor .i64 x (-9223372036854775808) = xorL x := by
 show IntKind.i64.wrap ((BitVec.ofInt 64 x ^^^ BitVec.ofInt 64 (-9223372036854775808)).toNat : Int) = _
 rw [BitVec.toNat_xor, ofInt_i64_toNat x h1 h2, show (BitVec.ofInt 64 (-9223372036854775808)).toNat = 9223372036854775808 from rfl]
 unfold xorL
 by_cases h : x < 0
 · rw [if_pos h, if_pos h]
   obtain ⟨m, hm⟩ : ∃ m : Nat, (m : Int) = x + 9223372036854775808 := ⟨(x + 9223372036854775808).toNat, by omega⟩
   have e : (x + 18446744073709551616).toNat = 9223372036854775808 + m := by omega
   rw [e, ← nat_xor_top (m := m) (by omega), Nat.xor_assoc, Nat.xor_self, Nat.xor_zero, IntKind.wrap_i64]; omega
 · rw [if_neg h, if_neg h, nat_xor_top (by omega), IntKind.wrap_i64]; omega
theorem putT_mod (v : Int) (k : Nat) : ∀ j, j ≤ 8 → putT 8 (v + k * 18446744073709551616) j = putT 8 v j
 | 0, _ => rfl
 | j + 1, h => by
   rw [putT_succ, putT_succ, putT_mod v k j (by omega)]
   congr 2
   have e : (18446744073709551616 : Int) = 2 ^ (8 * (8 - 1 - j)) * (256 * 2 ^ (8 * j)) := by
     have : j = 0 ∨ j = 1 ∨ j = 2 ∨ j = 3 ∨ j = 4 ∨ j = 5 ∨ j = 6 ∨ j = 7 := by omega
     rcases this with rfl | rfl | rfl | rfl | rfl | rfl | rfl | rfl <;> decide
   have hp : (2 : Int) ^ (8 * (8 - 1 - j)) ≠ 0 := by
     have : (0 : Int) < 2 ^ (8 * (8 - 1 - j)) := Int.pow_pos (by decide)
     omega
   have e2 : v + (k : Int) * 18446744073709551616 = v + 2 ^ (8 * (8 - 1 - j)) * (256 * ((k : Int) * 2 ^ (8 * j))) := by
     rw [e]; generalize (2 : Int) ^ (8 * (8 - 1 - j)) = a; generalize (2 : Int) ^ (8 * j) = b
     congr 1
     rw [Int.mul_left_comm, Int.mul_left_comm (k : Int) 256 b]
   rw [e2, Int.add_mul_ediv_left _ _ hp]
   omega
theorem put_xor (x : Int) (h1 : -9223372036854775808 ≤ x) (h2 : x < 9223372036854775808) : putB 8 (xorL x) = putB 8 (x + 9223372036854775808) := by
 unfold xorL putB
 split
 · rfl
 · have := putT_mod (x - 9223372036854775808) 1 8 (Nat.le_refl _)
   rw [← this]; congr 1; omega
theorem get_xor {x : Int} (h1 : -9223372036854775808 ≤ x) (h2 : x < 9223372036854775808) : bits .xor .i64 (IntKind.i64.wrap (getB (putB 8 (x + 9223372036854775808)))) (-9223372036854775808) = x := by
 rw [getB_putB (by omega) (by show x + 9223372036854775808 < 18446744073709551616; omega)]
 have e : IntKind.i64.wrap (x + 9223372036854775808) = xorL x := by
   rw [IntKind.wrap_i64]; unfold xorL; split <;> omega
 rw [e, xor_least (by unfold xorL; split <;> omega) (by unfold xorL; split <;> omega)]
 unfold xorL; split <;> split <;> omega
theorem hdr_eq (l : List Int) : (putB 2 l.length ++ putB 4 (adO l)) ++ l = recB l := by
 unfold recB recH putB putT
 simp [List.range_succ]
/- names -/
def chB (c : Int) : Bool := (decide (97 ≤ c) && decide (c ≤ 122)) || (decide (48 ≤ c) && decide (c ≤ 57))
def nameB (s : ByteArray) : Bool := (decide (1 ≤ s.size) && decide (s.size ≤ 8)) && (List.range s.size).all fun i => chB (byteAt s i)
theorem name_not {s : ByteArray} {n : Nat} (h : n < s.size) (hc : chB (byteAt s n) = false) : nameB s = false := by
 have : ((List.range s.size).all fun i => chB (byteAt s i)) = false := by
   rw [List.all_eq_false]; exact ⟨n, by simpa using h, by rw [hc]; decide⟩
 unfold nameB; rw [this]; simp
theorem name_all {s : ByteArray} (h : ∀ j, j < s.size → chB (byteAt s j) = true) : nameB s = (decide (1 ≤ s.size) && decide (s.size ≤ 8)) := by
 have : ((List.range s.size).all fun i => chB (byteAt s i)) = true := by
   rw [List.all_eq_true]; intro j hj; exact h j (by simpa using hj)
 unfold nameB; rw [this]; simp
theorem ch_iff {c : Int} : chB c = true ↔ (97 ≤ c ∧ c ≤ 122) ∨ (48 ≤ c ∧ c ≤ 57) := by simp [chB]
theorem name_size {s : ByteArray} (h : nameB s = true) : 1 ≤ s.size ∧ s.size ≤ 8 := by
 unfold nameB at h
 simp only [Bool.and_eq_true, decide_eq_true_eq] at h
 exact h.1
theorem put_own (b : List Int) (hb : b.length ≤ 1000000) (n : Nat) (hn : n ≤ 8) (v : Int) (hv : inRange v) : Spec Tryd.prog GF 30 [.sl 0 0 b.length, SV.i n, SV.i v] [u8B b] (fun r ho => r = .sl 1 0 (b ++ putB n v).length ∧ ho = [none, some (u8B (b ++ putB n v))]) := by
 refine start 23 1 Tryd.func30 rfl rfl rfl rfl ?_
 refine r1 <| sT 6 1 1 rfl <| e1 9 rfl <| keep [0, 1, 2] rfl <| W_seq <| r1 <| sT 8 9 1 rfl <| sAO 9 17 2 rfl <| sT 7 25 3 rfl <| e1 33 rfl <| keep [0, 2, 7] rfl <| W_block ?_
 refine chval 0 (u8B (b ++ putT n v 0)) rfl (by simp [putT]) ?_
 refine cval 0 (.sl 0 0 (b ++ putT n v 0).length) rfl (by simp [putT]) ?_
 refine rename 0 rfl rfl ?_
 refine loop (α := Nat) 2 (fun k => [(0, .sl 1 0 (b ++ putT n v (k)).length), (2, SV.i v), (7, SV.i (n - 1 - (k) : Int))]) (fun k => [none, some (u8B (b ++ putT n v (k)))]) (fun k => (k) ≤ n) (fun k => n - (k)) (((0) : Nat)) [0, 33] (fun _ => rfl) (show (0) ≤ n from (Nat.zero_le _)) rfl ⟨rfl, rfl, (congrArg SV.i (by omega)), trivial⟩ ⟨rfl, trivial⟩ (fun k hx => ?_)
 show W _ _ _ ⟨tOf [(0, .sl 1 0 (b ++ putT n v k).length), (2, SV.i v), (7, SV.i (n - 1 - k : Int))], hOf [none, some (u8B (b ++ putT n v k))], 2⟩
 have hx : k ≤ n := hx
 have hlen : (b ++ putT n v k).length = b.length + k := (by rw [List.length_append, putT_len])
 refine W_seq <| r1 <| sT 10 2 1 rfl <| sO 11 10 2 rfl <| e1 18 rfl <| keep [0, 2, 7, 11] rfl ?_
 refine q1 rfl (fun hc2 => ?_) (fun hc2 => ?_)
 try simp only [cs, ne_eq] at hc2
 refine W_skip <| tn <| W_seq <| W_block ?_
 refine r0 ?_
 refine sT 14 18 1 rfl <| sT 15 26 2 rfl <| sT 16 34 3 rfl <| sAO 17 42 4 rfl <| sO 18 50 5 rfl ?_
 refine val 18 (SV.i (v / 2 ^ (8 * (n - 1 - k)))) rfl (congrArg SV.i (shr_val (by omega) (by omega))) ?_
 refine sT 19 58 6 rfl ?_
 refine val 19 (.d (.val (.int .u8 (v / 2 ^ (8 * (n - 1 - k)) % 256)))) rfl (congrArg (fun x => SV.d (D.val (Value.int .u8 x))) rfl) ?_
 refine sT 20 66 7 rfl ?_
 refine sV 21 74 8 rfl ⟨Nat.le_refl _, trivial, (by show (_ + 1) * 1 ≤ 140737488355328; omega), (by simp only [maxLen]; omega)⟩ ?_
 refine sT 0 82 9 rfl <| e1 90 rfl <| bn <| tn ?_
 refine rowsc 74 (b ++ putT n v (k + 1)).length (u8F (b ++ putT n v (k + 1))) rfl (by rw [putT_succ, ← List.append_assoc, List.length_append (bs := [_])]; rfl) (fun i c hi hc => by rw [putT_succ, ← List.append_assoc]; exact u8_one rfl i c hi hc) ?_
 refine cval 0 (.sl 74 0 (b ++ putT n v (k + 1)).length) rfl (by rw [putT_succ, ← List.append_assoc, List.length_append (bs := [_])]; rfl) ?_
 refine r0 ?_
 refine sT 12 90 1 rfl <| sAO 13 98 2 rfl <| sT 7 106 3 rfl <| e1 114 rfl <| tn ?_
 exact again ((k + 1 : Nat)) [0, 74] (show (k + 1) ≤ n from (by omega)) (show n - (k + 1) < n - k from (by omega)) rfl ⟨rfl, rfl, (congrArg SV.i (by omega)), trivial⟩ ⟨rfl, trivial⟩
 try simp only [cs, ne_eq] at hc2
 refine W_exit <| tx <| tx <| bx <| tn <| r1 <| sT 22 18 1 rfl <| sT 6 26 2 rfl <| e1 34 rfl <| keep [6] rfl <| W_ret ?_
 obtain rfl : n = k := (by omega)
 exact out1 6 (.sl 1 0 (b ++ putB n v).length) (π := [0, 1]) (hout := [none, some (u8B (b ++ putB n v))]) Tryd.results30 rfl rfl rfl rfl ⟨rfl, trivial⟩ ⟨rfl, rfl⟩
theorem put_new (n : Nat) (hn : n ≤ 8) (v : Int) (hv : inRange v) : Spec Tryd.prog GF 30 [.d .nils, SV.i n, SV.i v] [] (fun r ho => r = .sl 0 0 (putB n v).length ∧ ho = [some (u8B (putB n v))]) := by
 refine start 23 0 Tryd.func30 rfl rfl rfl rfl ?_
 refine r1 <| sT 6 0 1 rfl <| e1 8 rfl <| keep [0, 1, 2] rfl <| W_seq <| r1 <| sT 8 8 1 rfl <| sAO 9 16 2 rfl <| sT 7 24 3 rfl <| e1 32 rfl <| keep [0, 2, 7] rfl <| W_block ?_
 have hb : ([] : List Int).length ≤ 1000000 := (by decide)
 refine ghostly 0 5 1 (u8F []) rfl ?_
 refine loop (α := Nat) 1 (fun k => [(0, .sl 0 0 (([] : List Int) ++ putT n v (k)).length), (2, SV.i v), (7, SV.i (n - 1 - (k) : Int))]) (fun k => [some (u8B (([] : List Int) ++ putT n v (k)))]) (fun k => (k) ≤ n) (fun k => n - (k)) (((0) : Nat)) [32] (fun _ => rfl) (show (0) ≤ n from (Nat.zero_le _)) rfl ⟨rfl, rfl, (congrArg SV.i (by omega)), trivial⟩ ⟨rfl, trivial⟩ (fun k hx => ?_)
 show W _ _ _ ⟨tOf [(0, .sl 0 0 (([] : List Int) ++ putT n v k).length), (2, SV.i v), (7, SV.i (n - 1 - k : Int))], hOf [some (u8B (([] : List Int) ++ putT n v k))], 1⟩
 have hx : k ≤ n := hx
 have hlen : (([] : List Int) ++ putT n v k).length = ([] : List Int).length + k := (by rw [List.length_append, putT_len])
 refine W_seq <| r1 <| sT 10 1 1 rfl <| sO 11 9 2 rfl <| e1 17 rfl <| keep [0, 2, 7, 11] rfl ?_
 refine q1 rfl (fun hc2 => ?_) (fun hc2 => ?_)
 try simp only [cs, ne_eq] at hc2
 refine W_skip <| tn <| W_seq <| W_block ?_
 refine r0 ?_
 refine sT 14 17 1 rfl <| sT 15 25 2 rfl <| sT 16 33 3 rfl <| sAO 17 41 4 rfl <| sO 18 49 5 rfl ?_
 refine val 18 (SV.i (v / 2 ^ (8 * (n - 1 - k)))) rfl (congrArg SV.i (shr_val (by omega) (by omega))) ?_
 refine sT 19 57 6 rfl ?_
 refine val 19 (.d (.val (.int .u8 (v / 2 ^ (8 * (n - 1 - k)) % 256)))) rfl (congrArg (fun x => SV.d (D.val (Value.int .u8 x))) rfl) ?_
 refine sT 20 65 7 rfl ?_
 refine sV 21 73 8 rfl ⟨Nat.le_refl _, trivial, (by show (_ + 1) * 1 ≤ 140737488355328; omega), (by simp only [maxLen]; omega)⟩ ?_
 refine sT 0 81 9 rfl <| e1 89 rfl <| bn <| tn ?_
 refine rowsc 73 (([] : List Int) ++ putT n v (k + 1)).length (u8F (([] : List Int) ++ putT n v (k + 1))) rfl (by rw [putT_succ, ← List.append_assoc, List.length_append (bs := [_])]; rfl) (fun i c hi hc => by rw [putT_succ, ← List.append_assoc]; exact u8_one rfl i c hi hc) ?_
 refine cval 0 (.sl 73 0 (([] : List Int) ++ putT n v (k + 1)).length) rfl (by rw [putT_succ, ← List.append_assoc, List.length_append (bs := [_])]; rfl) ?_
 refine r0 ?_
 refine sT 12 89 1 rfl <| sAO 13 97 2 rfl <| sT 7 105 3 rfl <| e1 113 rfl <| tn ?_
 exact again ((k + 1 : Nat)) [73] (show (k + 1) ≤ n from (by omega)) (show n - (k + 1) < n - k from (by omega)) rfl ⟨rfl, rfl, (congrArg SV.i (by omega)), trivial⟩ ⟨rfl, trivial⟩
 try simp only [cs, ne_eq] at hc2
 refine W_exit <| tx <| tx <| bx <| tn <| r1 <| sT 22 17 1 rfl <| sT 6 25 2 rfl <| e1 33 rfl <| keep [6] rfl <| W_ret ?_
 obtain rfl : n = k := (by omega)
 exact out1 6 (.sl 0 0 (putB n v).length) (π := [0]) (hout := [some (u8B (putB n v))]) Tryd.results30 rfl rfl rfl rfl ⟨rfl, trivial⟩ ⟨rfl, rfl⟩
theorem fget8 (l : List Int) (hl : Bytes l) (h8 : l.length ≤ 8) : Spec Tryd.prog GF 38 [u8V l] [] (fun r ho => r = SV.i (IntKind.i64.wrap (getB l)) ∧ ho = []) := by
 have hl2 := hl.b
 have hln := hl.n
 refine start 19 0 Tryd.func38 rfl rfl rfl rfl ?_
 refine r1 <| sT 2 0 1 rfl <| e1 8 rfl <| keep [0] rfl <| r1 <| sT 3 8 1 rfl <| e1 16 rfl <| keep [0, 3] rfl <| W_seq <| r1 <| sT 6 16 1 rfl <| sO 7 24 2 rfl <| sT 8 32 3 rfl <| e1 40 rfl <| keep [3, 6, 7, 8] rfl <| W_block ?_
 refine loop (α := Nat) 0 (fun n => [(3, SV.i (IntKind.i64.wrap (getB (l.take (n))))), (6, u8V l), (7, SV.i l.length), (8, SV.i (n))]) (fun n => []) (fun n => (n) ≤ l.length) (fun n => l.length - (n)) (((0) : Nat)) [] (fun _ => rfl) (show (0) ≤ l.length from (Nat.zero_le _)) rfl ⟨rfl, rfl, rfl, rfl, trivial⟩ trivial (fun n hx => ?_)
 show W _ _ _ ⟨tOf [(3, SV.i (IntKind.i64.wrap (getB (l.take n)))), (6, u8V l), (7, SV.i l.length), (8, SV.i n)], hOf [], 0⟩
 have hx : n ≤ l.length := hx
 have hx8 := hl2 n
 refine r1 <| sO 9 0 1 rfl <| e1 8 rfl <| keep [3, 6, 7, 8, 9] rfl <| W_seq ?_
 refine q1 rfl (fun hc3 => ?_) (fun hc3 => ?_)
 try simp only [cs, ne_eq] at hc3
 refine W_skip <| tn <| W_seq <| W_block <| r1 <| sO 10 8 1 rfl <| sO 11 16 2 rfl ?_
 refine val 11 (.d (.val (.int .u8 (l.getD n 0)))) rfl (by simp only [Int.toNat_natCast]) ?_
 refine sT 5 24 3 rfl <| e1 32 rfl <| keep [3, 5, 6, 7, 8] rfl ?_
 refine r0 ?_
 refine sT 12 32 1 rfl ?_
 refine sV 13 40 2 rfl (by decide) ?_
 refine val 13 (SV.i (IntKind.i64.wrap (getB (l.take n) * 256))) rfl (congrArg SV.i (shl_wr _)) ?_
 refine sT 14 48 3 rfl <| sT 15 56 4 rfl ?_
 refine val 15 (SV.i (l.getD n 0)) rfl (congrArg SV.i (wrap_in ⟨by omega, by omega⟩)) ?_
 refine sO 16 64 5 rfl ?_
 refine val 16 (SV.i (IntKind.i64.wrap (getB (l.take (n + 1))))) rfl (congrArg SV.i ((or_wr _ hx8.1 hx8.2).trans (congrArg IntKind.i64.wrap (getB_take l n (by omega)).symm))) ?_
 refine sT 3 72 6 rfl <| e1 80 rfl <| bn <| tn ?_
 refine r0 ?_
 refine sAO 17 80 1 rfl <| sT 8 88 2 rfl <| e1 96 rfl <| tn ?_
 exact again ((n + 1 : Nat)) [] (show (n + 1) ≤ l.length from (by omega)) (show l.length - (n + 1) < l.length - n from (by omega)) rfl ⟨rfl, rfl, rfl, rfl, trivial⟩ trivial
 try simp only [cs, ne_eq] at hc3
 refine W_exit <| tx <| tx <| bx <| tn <| r1 <| sT 18 8 1 rfl <| sT 2 16 2 rfl <| e1 24 rfl <| keep [2] rfl <| W_ret ?_
 obtain rfl : n = l.length := (by omega)
 exact out1 2 (SV.i (IntKind.i64.wrap (getB l))) (π := []) (hout := []) Tryd.results38 rfl (by rw [List.take_length]; rfl) rfl rfl trivial ⟨rfl, rfl⟩
theorem frec_any (l : List Int) (hl : Bytes l) (h4 : l.length ≤ 4000) : Spec Tryd.prog GF 36 [u8V l] [] (fun r ho => r = SV.tup [.sl 0 0 (recB l).length, SV.i 0] ∧ ho = [some (u8B (recB l))]) := by
 have hln := hl.n
 have hs := adO_bd l
 refine start 15 0 Tryd.func36 rfl rfl rfl rfl ?_
 refine r1 <| sT 2 0 1 rfl <| sT 3 8 2 rfl <| e1 16 rfl <| keep [0] rfl <| W_seq <| r1 <| sT 4 16 1 rfl <| sO 5 24 2 rfl <| sO 6 32 3 rfl <| e1 40 rfl <| keep [0, 6] rfl ?_
 refine q1 rfl (fun hc1 => ?_) (fun hc1 => ?_)
 exfalso; simp at hc1; omega
 try simp only [cs, ne_eq] at hc1
 refine W_skip <| tn <| r1 <| sT 7 40 1 rfl <| sO 8 48 2 rfl ?_
 refine c1 (put_new 2 (by omega) l.length ⟨by omega, by omega⟩) [] [56] 9 56 3 rfl rfl rfl rfl rfl rfl rfl rfl Tryd.func30 rfl rfl rfl rfl trivial rfl rfl ?_
 refine sT 10 64 4 rfl ?_
 refine c1 (adof_any l hl) [] [] 11 72 5 rfl rfl rfl rfl rfl rfl rfl rfl Tryd.func55 rfl rfl rfl rfl trivial rfl rfl ?_
 refine c1 (put_own (putB 2 l.length) (by unfold putB; rw [putT_len]; omega) 4 (by omega) (adO l) ⟨by omega, by omega⟩) [56] [56, 80] 12 80 6 rfl rfl rfl rfl rfl rfl rfl rfl Tryd.func30 rfl rfl rfl rfl ⟨rfl, trivial⟩ rfl rfl ?_
 refine sT 13 88 7 rfl ?_
 refine sV 14 96 8 rfl ⟨Nat.le_refl _, trivial, (by simp only [List.length_append, putB, putT_len]; show (_ + l.length) * 1 ≤ 140737488355328; omega), (by simp only [List.length_append, putB, putT_len, maxLen]; omega)⟩ ?_
 refine sT 2 104 9 rfl <| sT 3 112 10 rfl <| e1 120 rfl <| keep [2, 3] rfl ?_
 refine rowsc 96 (recB l).length (u8F (recB l)) rfl (by rw [← hdr_eq, List.length_append (bs := l)]) (fun i c hi hc => by rw [← hdr_eq]; exact u8_cat i c hi hc) ?_
 refine cval 2 (.sl 96 0 (recB l).length) rfl (by rw [← hdr_eq, List.length_append (bs := l)]) ?_
 refine W_ret ?_
 exact out2 2 3 (.sl 0 0 (recB l).length) (SV.i 0) (π := [96]) (hout := [some (u8B (recB l))]) Tryd.results36 rfl rfl rfl rfl rfl rfl ⟨rfl, trivial⟩ ⟨rfl, rfl⟩
theorem name_any (s : ByteArray) (hs : s.size ≤ 9223372036854775807) : Spec Tryd.prog GF 22 [.d (.val (.string s))] [] (fun r ho => r = SV.b (nameB s) ∧ ho = []) := by
 refine start 35 0 Tryd.func22 rfl rfl rfl rfl ?_
 refine r1 <| sT 2 0 1 rfl <| e1 8 rfl <| keep [0] rfl <| W_seq <| r1 <| sT 5 8 1 rfl <| sT 6 16 2 rfl <| sO 7 24 3 rfl <| sT 8 32 4 rfl <| e1 40 rfl <| keep [0, 6, 7, 8] rfl <| W_block ?_
 refine loop (α := Nat) 0 (fun n => [(0, .d (.val (.string s))), (6, .d (.vec 1 s.size (strBytesF s))), (7, SV.i s.size), (8, SV.i n)]) (fun n => []) (fun n => n ≤ s.size ∧ ∀ j, j < n → chB (byteAt s j) = true) (fun n => s.size - n) (0) [] (fun _ => rfl) ⟨Nat.zero_le _, fun j hj => by omega⟩ rfl ⟨rfl, rfl, rfl, rfl, trivial⟩ trivial (fun n hx => ?_)
 obtain ⟨hn, hno⟩ := hx
 refine r1 <| sO 9 0 1 rfl <| e1 8 rfl <| keep [0, 6, 7, 8, 9] rfl <| W_seq ?_
 refine q1 rfl (fun hc2 => ?_) (fun hc2 => ?_)
 try simp only [cs, ne_eq] at hc2
 refine W_skip <| tn <| W_seq <| W_block <| r1 <| sO 10 8 1 rfl <| sO 11 16 2 rfl <| sT 4 24 3 rfl <| e1 32 rfl <| keep [0, 4, 6, 7, 8] rfl <| r1 <| sT 12 32 1 rfl <| sO 13 40 2 rfl <| sT 14 48 3 rfl ?_
 refine ask 14 rfl (fun hg4_14 => ?_) (fun hg4_14 => ?_)
 try simp only [cs, ne_eq] at hg4_14
 refine gF 2 false 14 15 4 rfl rfl <| gF 2 false 14 16 5 rfl rfl <| sT 17 72 6 rfl <| sT 18 80 7 rfl <| gT 6 true 18 8 rfl rfl <| sT 19 88 8 rfl <| gT 6 true 18 9 rfl rfl <| sO 20 96 9 rfl <| gT 6 true 18 10 rfl rfl <| sT 21 104 10 rfl ?_
 refine ask 21 rfl (fun hg4_21 => ?_) (fun hg4_21 => ?_)
 try simp only [cs, ne_eq] at hg4_21
 refine gF 9 false 21 22 11 rfl rfl <| gF 9 false 21 23 12 rfl rfl <| gT 6 true 18 13 rfl rfl <| sT 24 128 13 rfl <| sT 25 136 14 rfl <| e1 144 rfl <| keep [0, 6, 7, 8, 25] rfl ?_
 refine q1 rfl (fun hc4 => ?_) (fun hc4 => ?_)
 try simp only [cs, ne_eq] at hc4
 refine r1 <| sT 2 144 1 rfl <| e1 152 rfl <| keep [2] rfl <| W_ret <| br <| tr <| tr <| br <| tr ?_
 exact out1 2 (SV.b (nameB s)) (π := []) (hout := []) Tryd.results22 rfl (by have hb : chB (byteAt s n) = false := (by rw [← Bool.not_eq_true, ch_iff]; unfold byteAt; (try simp only [Int.toNat_natCast] at *); omega); show SV.b _ = SV.b _; refine congrArg SV.b ?_; rw [name_not (n := n) (by omega) hb]) rfl rfl trivial ⟨rfl, rfl⟩
 exact absurd hc4 (by decide)
 try simp only [cs, ne_eq] at hg4_21
 refine gT 9 false 21 11 rfl rfl <| sT 22 112 11 rfl <| gT 9 false 21 12 rfl rfl <| sO 23 120 12 rfl <| gT 6 true 18 13 rfl rfl <| sT 24 128 13 rfl <| sT 25 136 14 rfl <| e1 144 rfl <| keep [0, 6, 7, 8, 25] rfl ?_
 refine q1 rfl (fun hc4 => ?_) (fun hc4 => ?_)
 try simp only [cs, ne_eq] at hc4
 refine r1 <| sT 2 144 1 rfl <| e1 152 rfl <| keep [2] rfl <| W_ret <| br <| tr <| tr <| br <| tr ?_
 exact out1 2 (SV.b (nameB s)) (π := []) (hout := []) Tryd.results22 rfl (by have hb : chB (byteAt s n) = false := (by rw [← Bool.not_eq_true, ch_iff]; unfold byteAt; (try simp only [Int.toNat_natCast] at *); omega); show SV.b _ = SV.b _; refine congrArg SV.b ?_; rw [name_not (n := n) (by omega) hb]) rfl rfl trivial ⟨rfl, rfl⟩
 try simp only [cs, ne_eq] at hc4
 refine W_skip <| bn <| tn ?_
 refine r0 ?_
 refine sAO 26 144 1 rfl <| sT 8 152 2 rfl <| e1 160 rfl <| tn ?_
 exact again (n + 1) [] ⟨by omega, fun j hj => by by_cases e : j = n; (subst e; clear hno; exact (by rw [ch_iff]; unfold byteAt; (try simp only [Int.toNat_natCast] at *); omega)); exact hno j (by omega)⟩ (by omega) rfl ⟨rfl, rfl, rfl, rfl, trivial⟩ trivial
 try simp only [cs, ne_eq] at hg4_14
 refine gT 2 false 14 4 rfl rfl <| sT 15 56 4 rfl <| gT 2 false 14 5 rfl rfl <| sO 16 64 5 rfl <| sT 17 72 6 rfl <| sT 18 80 7 rfl ?_
 refine ask 18 rfl (fun hg4_18 => ?_) (fun hg4_18 => ?_)
 try simp only [cs, ne_eq] at hg4_18
 refine gT 6 true 18 8 rfl rfl <| sT 19 88 8 rfl <| gT 6 true 18 9 rfl rfl <| sO 20 96 9 rfl <| gT 6 true 18 10 rfl rfl <| sT 21 104 10 rfl ?_
 refine ask 21 rfl (fun hg4_21 => ?_) (fun hg4_21 => ?_)
 try simp only [cs, ne_eq] at hg4_21
 refine gF 9 false 21 22 11 rfl rfl <| gF 9 false 21 23 12 rfl rfl <| gT 6 true 18 13 rfl rfl <| sT 24 128 13 rfl <| sT 25 136 14 rfl <| e1 144 rfl <| keep [0, 6, 7, 8, 25] rfl ?_
 refine q1 rfl (fun hc4 => ?_) (fun hc4 => ?_)
 try simp only [cs, ne_eq] at hc4
 refine r1 <| sT 2 144 1 rfl <| e1 152 rfl <| keep [2] rfl <| W_ret <| br <| tr <| tr <| br <| tr ?_
 exact out1 2 (SV.b (nameB s)) (π := []) (hout := []) Tryd.results22 rfl (by have hb : chB (byteAt s n) = false := (by rw [← Bool.not_eq_true, ch_iff]; unfold byteAt; (try simp only [Int.toNat_natCast] at *); omega); show SV.b _ = SV.b _; refine congrArg SV.b ?_; rw [name_not (n := n) (by omega) hb]) rfl rfl trivial ⟨rfl, rfl⟩
 exact absurd hc4 (by decide)
 try simp only [cs, ne_eq] at hg4_21
 refine gT 9 false 21 11 rfl rfl <| sT 22 112 11 rfl <| gT 9 false 21 12 rfl rfl <| sO 23 120 12 rfl <| gT 6 true 18 13 rfl rfl <| sT 24 128 13 rfl <| sT 25 136 14 rfl <| e1 144 rfl <| keep [0, 6, 7, 8, 25] rfl ?_
 refine q1 rfl (fun hc4 => ?_) (fun hc4 => ?_)
 try simp only [cs, ne_eq] at hc4
 refine r1 <| sT 2 144 1 rfl <| e1 152 rfl <| keep [2] rfl <| W_ret <| br <| tr <| tr <| br <| tr ?_
 exact out1 2 (SV.b (nameB s)) (π := []) (hout := []) Tryd.results22 rfl (by have hb : chB (byteAt s n) = false := (by rw [← Bool.not_eq_true, ch_iff]; unfold byteAt; (try simp only [Int.toNat_natCast] at *); omega); show SV.b _ = SV.b _; refine congrArg SV.b ?_; rw [name_not (n := n) (by omega) hb]) rfl rfl trivial ⟨rfl, rfl⟩
 try simp only [cs, ne_eq] at hc4
 refine W_skip <| bn <| tn ?_
 refine r0 ?_
 refine sAO 26 144 1 rfl <| sT 8 152 2 rfl <| e1 160 rfl <| tn ?_
 exact again (n + 1) [] ⟨by omega, fun j hj => by by_cases e : j = n; (subst e; clear hno; exact (by rw [ch_iff]; unfold byteAt; (try simp only [Int.toNat_natCast] at *); omega)); exact hno j (by omega)⟩ (by omega) rfl ⟨rfl, rfl, rfl, rfl, trivial⟩ trivial
 try simp only [cs, ne_eq] at hg4_18
 refine gF 6 true 18 19 8 rfl rfl <| gF 6 true 18 20 9 rfl rfl <| gF 6 true 18 21 10 rfl rfl ?_
 refine gz 9 false 21 22 11 rfl rfl rfl rfl rfl rfl ?_
 refine gz 9 false 21 23 12 rfl rfl rfl rfl rfl rfl ?_
 refine gF 6 true 18 24 13 rfl rfl <| sT 25 136 14 rfl <| e1 144 rfl <| keep [0, 6, 7, 8, 25] rfl ?_
 refine q1 rfl (fun hc4 => ?_) (fun hc4 => ?_)
 exact absurd hc4 (by decide)
 try simp only [cs, ne_eq] at hc4
 refine W_skip <| bn <| tn ?_
 refine r0 ?_
 refine sAO 26 144 1 rfl <| sT 8 152 2 rfl <| e1 160 rfl <| tn ?_
 exact again (n + 1) [] ⟨by omega, fun j hj => by by_cases e : j = n; (subst e; clear hno; exact (by rw [ch_iff]; unfold byteAt; (try simp only [Int.toNat_natCast] at *); omega)); exact hno j (by omega)⟩ (by omega) rfl ⟨rfl, rfl, rfl, rfl, trivial⟩ trivial
 try simp only [cs, ne_eq] at hc2
 refine W_exit <| tx <| tx <| bx <| tn <| r1 <| sT 27 8 1 rfl <| sO 28 16 2 rfl <| sO 29 24 3 rfl <| sT 30 32 4 rfl ?_
 refine ask 30 rfl (fun hg7_30 => ?_) (fun hg7_30 => ?_)
 try simp only [cs, ne_eq] at hg7_30
 refine gT 3 true 30 5 rfl rfl <| sT 31 40 5 rfl <| gT 3 true 30 6 rfl rfl <| sO 32 48 6 rfl <| gT 3 true 30 7 rfl rfl <| sO 33 56 7 rfl <| sT 34 64 8 rfl <| sT 2 72 9 rfl <| e1 80 rfl <| keep [2] rfl <| W_ret ?_
 exact out1 2 (SV.b (nameB s)) (π := []) (hout := []) Tryd.results22 rfl (by rw [name_all (fun j hj => hno j (by omega))]; show SV.b _ = SV.b _; refine congrArg SV.b (Bool.eq_iff_iff.2 ?_); simp at *; omega) rfl rfl trivial ⟨rfl, rfl⟩
 try simp only [cs, ne_eq] at hg7_30
 refine gF 3 true 30 31 5 rfl rfl <| gF 3 true 30 32 6 rfl rfl <| gF 3 true 30 33 7 rfl rfl <| sT 34 64 8 rfl <| sT 2 72 9 rfl <| e1 80 rfl <| keep [2] rfl <| W_ret ?_
 exact out1 2 (SV.b (nameB s)) (π := []) (hout := []) Tryd.results22 rfl (by rw [name_all (fun j hj => hno j (by omega))]; show SV.b _ = SV.b _; refine congrArg SV.b (Bool.eq_iff_iff.2 ?_); simp at *; omega) rfl rfl trivial ⟨rfl, rfl⟩
theorem good_any (s : ByteArray) (hs : s.size ≤ 9223372036854775807) : Spec Tryd.prog GF 15 [.d (.val (.string s))] [] (fun r ho => r = SV.b (nameB s) ∧ ho = []) := by
 refine start 41 0 Tryd.func15 rfl rfl rfl rfl ?_
 refine r1 <| sT 2 0 1 rfl <| e1 8 rfl <| keep [0] rfl <| W_seq <| r1 <| sT 4 8 1 rfl <| sO 5 16 2 rfl <| sO 6 24 3 rfl <| sT 7 32 4 rfl ?_
 refine ask 7 rfl (fun hg1_7 => ?_) (fun hg1_7 => ?_)
 try simp only [cs, ne_eq] at hg1_7
 refine gF 3 false 7 8 5 rfl rfl <| gF 3 false 7 9 6 rfl rfl <| gF 3 false 7 10 7 rfl rfl <| sT 11 64 8 rfl <| e1 72 rfl <| keep [0, 11] rfl ?_
 refine q1 rfl (fun hc1 => ?_) (fun hc1 => ?_)
 try simp only [cs, ne_eq] at hc1
 refine r1 <| sT 2 72 1 rfl <| e1 80 rfl <| keep [2] rfl <| W_ret <| tr ?_
 exact out1 2 (SV.b (nameB s)) (π := []) (hout := []) Tryd.results15 rfl (by have hb : (decide (1 ≤ s.size) && decide (s.size ≤ 8)) = false := (by rw [Bool.and_eq_false_iff, decide_eq_false_iff_not, decide_eq_false_iff_not]; omega); show SV.b _ = SV.b _; refine congrArg SV.b ?_; unfold nameB; rw [hb]; rfl) rfl rfl trivial ⟨rfl, rfl⟩
 exact absurd hc1 (by decide)
 try simp only [cs, ne_eq] at hg1_7
 refine gT 3 false 7 5 rfl rfl <| sT 8 40 5 rfl <| gT 3 false 7 6 rfl rfl <| sO 9 48 6 rfl <| gT 3 false 7 7 rfl rfl <| sO 10 56 7 rfl <| sT 11 64 8 rfl <| e1 72 rfl <| keep [0, 11] rfl ?_
 refine q1 rfl (fun hc1 => ?_) (fun hc1 => ?_)
 try simp only [cs, ne_eq] at hc1
 refine r1 <| sT 2 72 1 rfl <| e1 80 rfl <| keep [2] rfl <| W_ret <| tr ?_
 exact out1 2 (SV.b (nameB s)) (π := []) (hout := []) Tryd.results15 rfl (by have hb : (decide (1 ≤ s.size) && decide (s.size ≤ 8)) = false := (by rw [Bool.and_eq_false_iff, decide_eq_false_iff_not, decide_eq_false_iff_not]; omega); show SV.b _ = SV.b _; refine congrArg SV.b ?_; unfold nameB; rw [hb]; rfl) rfl rfl trivial ⟨rfl, rfl⟩
 try simp only [cs, ne_eq] at hc1
 refine W_skip <| tn <| W_seq <| r1 <| sT 3 72 1 rfl <| e1 80 rfl <| keep [0, 3] rfl <| W_block ?_
 refine loop (α := Nat) 0 (fun n => [(0, .d (.val (.string s))), (3, SV.i n)]) (fun n => []) (fun n => n ≤ s.size ∧ ∀ j, j < n → chB (byteAt s j) = true) (fun n => s.size - n) (0) [] (fun _ => rfl) ⟨Nat.zero_le _, fun j hj => by omega⟩ rfl ⟨rfl, rfl, trivial⟩ trivial (fun n hx => ?_)
 obtain ⟨hn, hno⟩ := hx
 refine W_seq <| r1 <| sT 12 0 1 rfl <| sT 13 8 2 rfl <| sO 14 16 3 rfl <| sO 15 24 4 rfl <| e1 32 rfl <| keep [0, 3, 15] rfl ?_
 refine q1 rfl (fun hc4 => ?_) (fun hc4 => ?_)
 try simp only [cs, ne_eq] at hc4
 refine W_skip <| tn <| W_seq <| W_block <| r1 <| sT 18 32 1 rfl <| sT 19 40 2 rfl <| sO 20 48 3 rfl <| sO 21 56 4 rfl <| sT 22 64 5 rfl ?_
 refine ask 22 rfl (fun hg6_22 => ?_) (fun hg6_22 => ?_)
 try simp only [cs, ne_eq] at hg6_22
 refine gT 4 true 22 6 rfl rfl <| sT 23 72 6 rfl <| gT 4 true 22 7 rfl rfl <| sT 24 80 7 rfl <| gT 4 true 22 8 rfl rfl <| sO 25 88 8 rfl <| gT 4 true 22 9 rfl rfl <| sO 26 96 9 rfl <| sT 27 104 10 rfl <| sT 28 112 11 rfl ?_
 refine ask 28 rfl (fun hg6_28 => ?_) (fun hg6_28 => ?_)
 try simp only [cs, ne_eq] at hg6_28
 refine gF 10 false 28 29 12 rfl rfl <| gF 10 false 28 30 13 rfl rfl <| gF 10 false 28 31 14 rfl rfl <| gF 10 false 28 32 15 rfl rfl <| gF 10 false 28 33 16 rfl rfl ?_
 refine gz 15 true 33 34 17 rfl rfl rfl rfl rfl rfl ?_
 refine gz 15 true 33 35 18 rfl rfl rfl rfl rfl rfl ?_
 refine gz 15 true 33 36 19 rfl rfl rfl rfl rfl rfl ?_
 refine gz 15 true 33 37 20 rfl rfl rfl rfl rfl rfl ?_
 refine gF 10 false 28 38 21 rfl rfl <| sT 39 200 22 rfl <| sT 40 208 23 rfl <| e1 216 rfl <| keep [0, 3, 40] rfl ?_
 refine q1 rfl (fun hc6 => ?_) (fun hc6 => ?_)
 exact absurd hc6 (by decide)
 try simp only [cs, ne_eq] at hc6
 refine W_skip <| bn <| tn ?_
 refine r0 ?_
 refine sT 16 216 1 rfl <| sAO 17 224 2 rfl <| sT 3 232 3 rfl <| e1 240 rfl <| tn ?_
 exact again (n + 1) [] ⟨by omega, fun j hj => by by_cases e : j = n; (subst e; clear hno; exact (by rw [ch_iff]; unfold byteAt; (try simp only [Int.toNat_natCast] at *); omega)); exact hno j (by omega)⟩ (by omega) rfl ⟨rfl, rfl, trivial⟩ trivial
 try simp only [cs, ne_eq] at hg6_28
 refine gT 10 false 28 12 rfl rfl <| sT 29 120 12 rfl <| gT 10 false 28 13 rfl rfl <| sT 30 128 13 rfl <| gT 10 false 28 14 rfl rfl <| sO 31 136 14 rfl <| gT 10 false 28 15 rfl rfl <| sO 32 144 15 rfl <| gT 10 false 28 16 rfl rfl <| sT 33 152 16 rfl ?_
 refine ask 33 rfl (fun hg6_33 => ?_) (fun hg6_33 => ?_)
 try simp only [cs, ne_eq] at hg6_33
 refine gT 15 true 33 17 rfl rfl <| sT 34 160 17 rfl <| gT 15 true 33 18 rfl rfl <| sT 35 168 18 rfl <| gT 15 true 33 19 rfl rfl <| sO 36 176 19 rfl <| gT 15 true 33 20 rfl rfl <| sO 37 184 20 rfl <| gT 10 false 28 21 rfl rfl <| sT 38 192 21 rfl <| sT 39 200 22 rfl <| sT 40 208 23 rfl <| e1 216 rfl <| keep [0, 3, 40] rfl ?_
 refine q1 rfl (fun hc6 => ?_) (fun hc6 => ?_)
 try simp only [cs, ne_eq] at hc6
 refine r1 <| sT 2 216 1 rfl <| e1 224 rfl <| keep [2] rfl <| W_ret <| br <| tr <| tr <| br <| tr ?_
 exact out1 2 (SV.b (nameB s)) (π := []) (hout := []) Tryd.results15 rfl (by have hb : chB (byteAt s n) = false := (by rw [← Bool.not_eq_true, ch_iff]; unfold byteAt; (try simp only [Int.toNat_natCast] at *); omega); show SV.b _ = SV.b _; refine congrArg SV.b ?_; rw [name_not (n := n) (by omega) hb]) rfl rfl trivial ⟨rfl, rfl⟩
 try simp only [cs, ne_eq] at hc6
 refine W_skip <| bn <| tn ?_
 refine r0 ?_
 refine sT 16 216 1 rfl <| sAO 17 224 2 rfl <| sT 3 232 3 rfl <| e1 240 rfl <| tn ?_
 exact again (n + 1) [] ⟨by omega, fun j hj => by by_cases e : j = n; (subst e; clear hno; exact (by rw [ch_iff]; unfold byteAt; (try simp only [Int.toNat_natCast] at *); omega)); exact hno j (by omega)⟩ (by omega) rfl ⟨rfl, rfl, trivial⟩ trivial
 try simp only [cs, ne_eq] at hg6_33
 refine gF 15 true 33 34 17 rfl rfl <| gF 15 true 33 35 18 rfl rfl <| gF 15 true 33 36 19 rfl rfl <| gF 15 true 33 37 20 rfl rfl <| gT 10 false 28 21 rfl rfl <| sT 38 192 21 rfl <| sT 39 200 22 rfl <| sT 40 208 23 rfl <| e1 216 rfl <| keep [0, 3, 40] rfl ?_
 refine q1 rfl (fun hc6 => ?_) (fun hc6 => ?_)
 try simp only [cs, ne_eq] at hc6
 refine r1 <| sT 2 216 1 rfl <| e1 224 rfl <| keep [2] rfl <| W_ret <| br <| tr <| tr <| br <| tr ?_
 exact out1 2 (SV.b (nameB s)) (π := []) (hout := []) Tryd.results15 rfl (by have hb : chB (byteAt s n) = false := (by rw [← Bool.not_eq_true, ch_iff]; unfold byteAt; (try simp only [Int.toNat_natCast] at *); omega); show SV.b _ = SV.b _; refine congrArg SV.b ?_; rw [name_not (n := n) (by omega) hb]) rfl rfl trivial ⟨rfl, rfl⟩
 exact absurd hc6 (by decide)
 try simp only [cs, ne_eq] at hg6_22
 refine gF 4 true 22 23 6 rfl rfl <| gF 4 true 22 24 7 rfl rfl <| gF 4 true 22 25 8 rfl rfl <| gF 4 true 22 26 9 rfl rfl <| sT 27 104 10 rfl <| sT 28 112 11 rfl <| gT 10 false 28 12 rfl rfl <| sT 29 120 12 rfl <| gT 10 false 28 13 rfl rfl <| sT 30 128 13 rfl <| gT 10 false 28 14 rfl rfl <| sO 31 136 14 rfl <| gT 10 false 28 15 rfl rfl <| sO 32 144 15 rfl <| gT 10 false 28 16 rfl rfl <| sT 33 152 16 rfl ?_
 refine ask 33 rfl (fun hg6_33 => ?_) (fun hg6_33 => ?_)
 try simp only [cs, ne_eq] at hg6_33
 refine gT 15 true 33 17 rfl rfl <| sT 34 160 17 rfl <| gT 15 true 33 18 rfl rfl <| sT 35 168 18 rfl <| gT 15 true 33 19 rfl rfl <| sO 36 176 19 rfl <| gT 15 true 33 20 rfl rfl <| sO 37 184 20 rfl <| gT 10 false 28 21 rfl rfl <| sT 38 192 21 rfl <| sT 39 200 22 rfl <| sT 40 208 23 rfl <| e1 216 rfl <| keep [0, 3, 40] rfl ?_
 refine q1 rfl (fun hc6 => ?_) (fun hc6 => ?_)
 try simp only [cs, ne_eq] at hc6
 refine r1 <| sT 2 216 1 rfl <| e1 224 rfl <| keep [2] rfl <| W_ret <| br <| tr <| tr <| br <| tr ?_
 exact out1 2 (SV.b (nameB s)) (π := []) (hout := []) Tryd.results15 rfl (by have hb : chB (byteAt s n) = false := (by rw [← Bool.not_eq_true, ch_iff]; unfold byteAt; (try simp only [Int.toNat_natCast] at *); omega); show SV.b _ = SV.b _; refine congrArg SV.b ?_; rw [name_not (n := n) (by omega) hb]) rfl rfl trivial ⟨rfl, rfl⟩
 try simp only [cs, ne_eq] at hc6
 refine W_skip <| bn <| tn ?_
 refine r0 ?_
 refine sT 16 216 1 rfl <| sAO 17 224 2 rfl <| sT 3 232 3 rfl <| e1 240 rfl <| tn ?_
 exact again (n + 1) [] ⟨by omega, fun j hj => by by_cases e : j = n; (subst e; clear hno; exact (by rw [ch_iff]; unfold byteAt; (try simp only [Int.toNat_natCast] at *); omega)); exact hno j (by omega)⟩ (by omega) rfl ⟨rfl, rfl, trivial⟩ trivial
 try simp only [cs, ne_eq] at hg6_33
 refine gF 15 true 33 34 17 rfl rfl <| gF 15 true 33 35 18 rfl rfl <| gF 15 true 33 36 19 rfl rfl <| gF 15 true 33 37 20 rfl rfl <| gT 10 false 28 21 rfl rfl <| sT 38 192 21 rfl <| sT 39 200 22 rfl <| sT 40 208 23 rfl <| e1 216 rfl <| keep [0, 3, 40] rfl ?_
 refine q1 rfl (fun hc6 => ?_) (fun hc6 => ?_)
 try simp only [cs, ne_eq] at hc6
 refine r1 <| sT 2 216 1 rfl <| e1 224 rfl <| keep [2] rfl <| W_ret <| br <| tr <| tr <| br <| tr ?_
 exact out1 2 (SV.b (nameB s)) (π := []) (hout := []) Tryd.results15 rfl (by have hb : chB (byteAt s n) = false := (by rw [← Bool.not_eq_true, ch_iff]; unfold byteAt; (try simp only [Int.toNat_natCast] at *); omega); show SV.b _ = SV.b _; refine congrArg SV.b ?_; rw [name_not (n := n) (by omega) hb]) rfl rfl trivial ⟨rfl, rfl⟩
 exact absurd hc6 (by decide)
 try simp only [cs, ne_eq] at hc4
 refine W_exit <| tx <| tx <| bx <| tn <| r1 <| sT 2 32 1 rfl <| e1 40 rfl <| keep [2] rfl <| W_ret ?_
 exact out1 2 (SV.b (nameB s)) (π := []) (hout := []) Tryd.results15 rfl (by have hb : (decide (1 ≤ s.size) && decide (s.size ≤ 8)) = true := (by rw [Bool.and_eq_true, decide_eq_true_eq, decide_eq_true_eq]; omega); rw [name_all (fun j hj => hno j (by omega)), hb]; rfl) rfl rfl trivial ⟨rfl, rfl⟩
end Go.Proofs.YtalhangpahffeaaDoor.Nice
