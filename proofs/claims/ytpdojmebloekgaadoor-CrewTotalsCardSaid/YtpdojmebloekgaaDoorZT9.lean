/- Part 9 of the proof of CrewTotals: ChunkRef, RollOf, ChunkDec, CoJ. -/
import Derived.Test.YtpdojmebloekgaaDoorZT8
namespace Go.Proofs.YtpdojmebloekgaaDoor.Nice.Co
open Go
set_option linter.unusedVariables false
set_option linter.unusedSimpArgs false
set_option maxRecDepth 100000
set_option maxHeartbeats 4000000
theorem inB_dec (x : Int) : decide (inB x) = (decide (-36028797018963968 ≤ x) && decide (x < 36028797018963968)) := by
 rw [Bool.eq_iff_iff, decide_eq_true_eq, Bool.and_eq_true, decide_eq_true_eq, decide_eq_true_eq]; rfl
def intF (l : List Int) : Nat → Nat → D := fun i _ => .val (.int .i64 (l.getD i 0))
def intV (l : List Int) : SV := .d (.vec 1 l.length (intF l))
def fldF (l : List (Nat × Int)) : Nat → Nat → D := fun i c => match c with | 0 => .val (.int .i64 (l.getD i (0, 0)).1) | 1 => .val (.int .i64 (l.getD i (0, 0)).2) | _ => .any
def fldV (l : List (Nat × Int)) : SV := .d (.vec 2 l.length (fldF l))
def flatN (l : List (Nat × Int)) (q : Nat) : List Int := (l.take q).flatMap fun f => bitsOf f.1 f.2
def flatF (l : List (Nat × Int)) : List Int := l.flatMap fun f => bitsOf f.1 f.2
theorem flatN_succ {l : List (Nat × Int)} {q : Nat} (h : q < l.length) : flatN l (q + 1) = flatN l q ++ bitsOf (l.getD q (0, 0)).1 (l.getD q (0, 0)).2 := by
 unfold flatN
 have : l.getD q (0, 0) = l[q] := by simp [List.getD, h]
 rw [this, List.take_succ_eq_append_getElem h, List.flatMap_append]; simp
theorem flatN_all (l : List (Nat × Int)) : flatN l l.length = flatF l := by unfold flatN flatF; rw [List.take_length]
theorem cat_int {A B : List Int} (i c : Nat) (hi : i < A.length + B.length) (hc : c < 1) : catR (intF A) A.length (intF B) i c = intF (A ++ B) i c := by
 unfold catR intF
 by_cases h : i < A.length
 · rw [if_pos h]; simp [List.getD, List.getElem?_append_left h]
 · rw [if_neg h]; simp [List.getD, List.getElem?_append_right (by omega : A.length ≤ i)]
theorem lit_one (b : Int) (i c : Nat) (hi : i < 1) (hc : c < 1) : litR 1 [.val (.int .i64 b)] i c = intF [b] i c := by
 obtain rfl : i = 0 := by omega
 obtain rfl : c = 0 := by omega
 rfl
theorem cat_one {A : List Int} {b b' : Int} (hb : b' = b) (i c : Nat) (hi : i < A.length + 1) (hc : c < 1) : catR (intF A) A.length (litR 1 [.val (.int .i64 b')]) i c = intF (A ++ [b]) i c := by
 subst hb
 rw [← cat_int i c hi hc]
 unfold catR
 split
 · rfl
 · exact lit_one _ _ _ (by omega) hc
theorem cat_two {A : List Int} {a b a' b' : Int} (ha : a' = a) (hb : b' = b) (i c : Nat) (hi : i < A.length + 2) (hc : c < 1) : catR (intF A) A.length (litR 1 [.val (.int .i64 a'), .val (.int .i64 b')]) i c = intF (A ++ [a, b]) i c := by
 subst ha; subst hb
 rw [← cat_int i c hi hc]
 unfold catR
 split
 · rfl
 · obtain rfl : c = 0 := by omega
   rcases (show i - A.length = 0 ∨ i - A.length = 1 by omega) with e | e <;> rw [e] <;> rfl
theorem pow_in {q : Nat} (h : q ≤ 62) : (1 : Int) ≤ 2 ^ q ∧ (2 : Int) ^ q ≤ 4611686018427387904 := by
 have h1 : 1 ≤ 2 ^ q := Nat.one_le_two_pow
 have h2 : 2 ^ q ≤ 2 ^ 62 := Nat.pow_le_pow_right (by decide) h
 have e : ((2 ^ q : Nat) : Int) = (2 : Int) ^ q := by simp
 omega
theorem shl_one {k : Int} {q : Nat} (h : k = q) (hq : q ≤ 62) : IntKind.i64.wrap (1 * 2 ^ (min k.toNat 64)) = 2 ^ q := by
 subst h
 rw [Int.toNat_natCast, Nat.min_eq_left (by omega), Int.one_mul]
 have := pow_in hq
 exact wrap_in ⟨by omega, by omega⟩
theorem quo_in {v : Int} {q : Nat} (h0 : 0 ≤ v) (hv : v ≤ 9223372036854775807) : 0 ≤ v / 2 ^ q ∧ v / 2 ^ q ≤ 9223372036854775807 := by
 have h1 := div_pow_bd v q (by omega) (by omega)
 exact ⟨Int.ediv_nonneg h0 (Int.le_of_lt (Int.pow_pos (by decide))), by omega⟩
def zf : Nat → Int → List (Nat × Int)
 | 0, _ => [(1, 0)]
 | n + 1, x => [(clW (n + 1), clH (n + 1)), (clB (n + 1), x)]
theorem zf_flat {x : Int} (hx : cls x = 0 → x = 0) : flatF (zf (cls x) x) = bitsOf (clW (cls x)) (clH (cls x)) ++ bitsOf (clB (cls x)) x := by
 cases e : cls x with
 | zero => rw [hx e]; rfl
 | succ n => simp [zf, flatF]
theorem zf_ok {x : Int} (h0 : 0 ≤ x) (h1 : x ≤ 9223372036854775807) (n : Nat) (hn : n < 5) : (zf n x).length ≤ 2 ∧ ∀ i, ((zf n x).getD i (0, 0)).1 ≤ 60 ∧ 0 ≤ ((zf n x).getD i (0, 0)).2 ∧ ((zf n x).getD i (0, 0)).2 ≤ 9223372036854775807 := by
 match n, hn with
 | 0, _ =>
   refine ⟨by simp [zf], fun i => ?_⟩
   match i with
   | 0 => exact ⟨by simp [zf], by simp [zf], by simp [zf]⟩
   | i + 1 => exact ⟨by simp [zf], by simp [zf], by simp [zf]⟩
 | n + 1, hn =>
   refine ⟨by simp [zf], fun i => ?_⟩
   match i with
   | 0 =>
     refine ⟨clW_le _, ?_, (clH_in _).2⟩
     show 0 ≤ clH (n + 1)
     match n, hn with
     | 0, _ | 1, _ | 2, _ | 3, _ => decide
     | n + 4, hn => omega
   | 1 => exact ⟨clB_le _, h0, h1⟩
   | i + 2 => exact ⟨by simp [zf], by simp [zf], by simp [zf]⟩
def numsN (l : List Smp) (k : Nat) : List Int := (List.range k).flatMap fun i => [cT (lstN l i) (l.getD i default), cV (lstN l i) (l.getD i default)]
def nums (l : List Smp) : List Int := numsN l l.length
theorem numsN_succ (l : List Smp) (k : Nat) : numsN l (k + 1) = numsN l k ++ [cT (lstN l k) (l.getD k default), cV (lstN l k) (l.getD k default)] := by unfold numsN; rw [List.range_succ, List.flatMap_append]; simp
theorem numsN_len (l : List Smp) : ∀ k, (numsN l k).length = 2 * k
 | 0 => rfl
 | k + 1 => by rw [numsN_succ, List.length_append, numsN_len l k]; simp; omega
theorem cT_eq (l : List Smp) (k : Nat) (s : Smp) : cT (lstN l k) s = if k = 0 then s.t else if k = 1 then s.t - (l.getD 0 default).t else s.t - 2 * (l.getD (k - 1) default).t + (l.getD (k - 2) default).t := by
 unfold cT
 rw [lstN_n, lstN_st]
 by_cases h0 : k = 0
 · subst h0; rfl
 · rw [if_neg (by omega), if_neg h0, (lstN_t l (by omega)).1]
   by_cases h1 : k = 1
   · subst h1; rw [if_neg (by omega), if_pos rfl]; simp
   · rw [if_pos (by omega), if_neg h1]; omega
theorem cV_eq (l : List Smp) (k : Nat) (s : Smp) : cV (lstN l k) s = if k = 0 then s.v else s.v - (l.getD (k - 1) default).v := by
 unfold cV
 rw [lstN_n]
 by_cases h0 : k = 0
 · subst h0; rfl
 · rw [if_neg (by omega), if_neg h0, (lstN_t l (by omega)).2]
theorem nums_sm {l : List Smp} (hz : faultTo l l.length = 0) (hl : l.length ≤ 120) : ∀ n ∈ nums l, isSm n := by
 intro n hn
 unfold nums numsN at hn
 obtain ⟨i, hi, hm⟩ := List.mem_flatMap.1 hn
 rw [List.mem_range] at hi
 have hs := smp_at hz hi
 have hc := c_small (lst_in (faultTo_le (Nat.le_of_lt hi) hz) (by omega)) hs.1 hs.2.1
 simp only [List.mem_cons, List.not_mem_nil, or_false] at hm
 rcases hm with rfl | rfl
 · exact hc.1
 · exact hc.2
theorem getI_mem {l : List Int} {q : Nat} (h : q < l.length) : l.getD q 0 ∈ l := by
 have : l.getD q 0 = l[q] := by simp [List.getD, h]
 rw [this]; exact List.getElem_mem h
def refL (l : List Smp) (q : Nat) : List Int := bitsOf 8 l.length ++ ((nums l).take q).flatMap zbits
theorem refL_succ {l : List Smp} {q : Nat} (h : q < (nums l).length) : refL l (q + 1) = refL l q ++ zbits ((nums l).getD q 0) := by
 unfold refL
 have : (nums l).getD q 0 = (nums l)[q] := by simp [List.getD, h]
 rw [this, List.take_succ_eq_append_getElem h, List.flatMap_append]; simp
theorem encL_eq (l : List Smp) : ∀ k, encL l k = bitsOf 8 l.length ++ (numsN l k).flatMap zbits
 | 0 => by simp [encL, numsN]
 | k + 1 => by
   show zput (zput (encL l k) _) _ = _
   rw [zput_eq, zput_eq, encL_eq l k, numsN_succ, List.flatMap_append]
   simp
theorem refL_all (l : List Smp) : refL l (nums l).length = encL l l.length := by unfold refL; rw [List.take_length, encL_eq]; rfl
theorem zbits_len (n : Int) : (zbits n).length ≤ 120 := by
 have := zput_len [] n
 rw [zput_eq] at this; simpa using this
theorem refL_len (l : List Smp) : ∀ q, (refL l q).length ≤ 8 + 120 * q := by
 intro q
 induction q with
 | zero => unfold refL; simp [bitsOf_length]
 | succ q ih =>
   by_cases h : q < (nums l).length
   · rw [refL_succ h, List.length_append]; have := zbits_len ((nums l).getD q 0); omega
   · have : refL l (q + 1) = refL l q := by unfold refL; rw [List.take_of_length_le (by omega), List.take_of_length_le (by omega)]
     rw [this]; omega
theorem refL_bits (l : List Smp) : AllBits (refL l (nums l).length) := by rw [refL_all]; exact encL_bits l _
theorem pack_zero (L : List Int) (hL : AllBits L) : pack (L ++ [0]) = packRoom L := by
 rw [pack_snoc L hL 0]
 apply List.ext_getElem?
 intro j
 rw [List.getElem?_set, packRoom_length]
 by_cases he : L.length / 8 = j
 · subst he
   rw [if_pos rfl, if_pos (by omega), packRoom_get L _ (by omega)]
   simp
 · rw [if_neg he]
theorem bit_take (L : List Int) (k : Nat) (h : k < L.length) : L.take (k + 1) = L.take k ++ [L.getD k 0] := by
 rw [List.take_succ_eq_append_getElem h]; simp [List.getD, List.getElem?_eq_getElem h]
theorem shr128 {k : Int} {r : Nat} (h : k = r) (hr : r < 8) : (128 : Int).fdiv (2 ^ (min k.toNat 8)) = 2 ^ (7 - r) := by
 subst h
 have e : r = 0 ∨ r = 1 ∨ r = 2 ∨ r = 3 ∨ r = 4 ∨ r = 5 ∨ r = 6 ∨ r = 7 := by omega
 rcases e with rfl | rfl | rfl | rfl | rfl | rfl | rfl | rfl <;> decide
theorem add_bit {M : List Int} (hM : AllBits M) : IntKind.u8.wrap (packByte M (M.length / 8) + 2 ^ (7 - M.length % 8)) = packByte M (M.length / 8) + 1 * 2 ^ (7 - M.length % 8) := by
 have h1 : AllBits [(1 : Int)] := by intro x hx; simp at hx; exact .inr hx
 have h2 := packByte_last M hM 1 (M.length / 8) (M.length % 8) (by omega) (by omega)
 have h3 := packByte_bd (M ++ [1]) (hM.append h1) (M.length / 8)
 rw [h2.1] at h3
 rw [IntKind.wrap_u8, Int.one_mul]
 rw [Int.one_mul] at h3
 exact Int.emod_eq_of_lt h3.1 (by omega)
theorem inb_any (x : Int) : Spec Tryd.prog GC 76 [SV.i x] [] (fun r ho => r = SV.b (decide (inB x)) ∧ ho = []) := by
 refine start 9 0 Tryd.func76 rfl rfl rfl rfl ?_
 refine r1 <| sT 2 0 1 rfl <| e1 8 rfl <| keep [0] rfl <| r1 <| sT 3 8 1 rfl <| sO 4 16 2 rfl <| sT 5 24 3 rfl ?_
 refine ask 5 rfl (fun hg1_5 => ?_) (fun hg1_5 => ?_)
 try simp only [cs, ne_eq] at hg1_5
 refine gT 2 true 5 4 rfl rfl <| sT 6 32 4 rfl <| gT 2 true 5 5 rfl rfl <| sO 7 40 5 rfl <| sT 8 48 6 rfl <| sT 2 56 7 rfl <| e1 64 rfl <| keep [2] rfl <| W_ret ?_
 exact out1 2 (SV.b (decide (inB x))) (π := []) (hout := []) Tryd.results76 rfl (by show SV.b _ = SV.b _; rw [inB_dec]; refine congrArg SV.b (Bool.eq_iff_iff.2 ?_); simp at *; try omega) rfl rfl trivial ⟨rfl, rfl⟩
 try simp only [cs, ne_eq] at hg1_5
 refine gF 2 true 5 6 4 rfl rfl <| gF 2 true 5 7 5 rfl rfl <| sT 8 48 6 rfl <| sT 2 56 7 rfl <| e1 64 rfl <| keep [2] rfl <| W_ret ?_
 exact out1 2 (SV.b (decide (inB x))) (π := []) (hout := []) Tryd.results76 rfl (by show SV.b _ = SV.b _; rw [inB_dec]; refine congrArg SV.b (Bool.eq_iff_iff.2 ?_); simp at *; try omega) rfl rfl trivial ⟨rfl, rfl⟩
theorem sfault_any (l : List Smp) (hin : SmpIn l) : Spec Tryd.prog GC 36 [smpV l] [] (fun r ho => r = SV.i (sfault l) ∧ ho = []) := by
 refine start 39 0 Tryd.func36 rfl rfl rfl rfl ?_
 refine r1 <| sT 2 0 1 rfl <| e1 8 rfl <| keep [0] rfl <| W_seq <| r1 <| sT 5 8 1 rfl <| sO 6 16 2 rfl <| sO 7 24 3 rfl <| e1 32 rfl <| keep [0, 7] rfl ?_
 refine q1 rfl (fun hc1 => ?_) (fun hc1 => ?_)
 try simp only [cs, ne_eq] at hc1
 refine r1 <| sT 2 32 1 rfl <| e1 40 rfl <| keep [2] rfl <| W_ret <| tr ?_
 exact out1 2 (SV.i (sfault l)) (π := []) (hout := []) Tryd.results36 rfl (by unfold sfault; rw [if_pos (by omega)]; rfl) rfl rfl trivial ⟨rfl, rfl⟩
 try simp only [cs, ne_eq] at hc1
 refine W_skip <| tn <| W_seq <| r1 <| sT 8 32 1 rfl <| sO 9 40 2 rfl <| sT 10 48 3 rfl <| e1 56 rfl <| keep [0, 8, 9, 10] rfl <| W_block ?_
 have hl := hin.n
 have hl2 : l.length ≤ 120 := (by omega)
 refine loop (α := Nat) 0 (fun k => [(0, smpV l), (8, smpV l), (9, SV.i l.length), (10, SV.i (k))]) (fun k => []) (fun k => (k) ≤ l.length ∧ faultTo l (k) = 0) (fun k => l.length - (k)) (((0) : Nat)) [] (fun _ => rfl) (show (0) ≤ l.length ∧ faultTo l (0) = 0 from ⟨Nat.zero_le _, rfl⟩) rfl ⟨rfl, rfl, rfl, rfl, trivial⟩ trivial (fun k hx => ?_)
 show W _ _ _ ⟨tOf [(0, smpV l), (8, smpV l), (9, SV.i l.length), (10, SV.i k)], hOf [], 0⟩
 have hx : k ≤ l.length ∧ faultTo l k = 0 := hx
 obtain ⟨hk, hf⟩ := hx
 refine r1 <| sO 11 0 1 rfl <| e1 8 rfl <| keep [0, 8, 9, 10, 11] rfl <| W_seq ?_
 refine q1 rfl (fun hc4 => ?_) (fun hc4 => ?_)
 · skip
   try simp only [cs, ne_eq] at hc4
   refine W_skip <| tn <| W_seq <| W_block <| r1 <| sT 12 8 1 rfl <| sO 13 16 2 rfl <| sO 14 24 3 rfl ?_
   refine val 14 (smpS (l.getD k default)) rfl (by first | rfl | (simp only [Nat.zero_add, Int.toNat_natCast]; rfl)) ?_
   refine sT 4 32 4 rfl <| sT 3 40 5 rfl <| s0O 48 6 rfl rfl rfl rfl rfl <| e1 56 rfl <| keep [0, 3, 4, 8, 9, 10] rfl <| W_seq <| r1 <| sT 15 56 1 rfl <| sO 16 64 2 rfl ?_
   refine c1 (inb_any (l.getD k default).t) [] [] 17 72 3 rfl rfl rfl rfl rfl rfl rfl rfl Tryd.func76 rfl rfl rfl rfl trivial rfl rfl ?_
   refine sT 18 80 4 rfl <| sT 19 88 5 rfl ?_
   refine ask 19 rfl (fun hg6_19 => ?_) (fun hg6_19 => ?_)
   try simp only [cs, ne_eq] at hg6_19
   refine gF 4 false 19 20 6 rfl rfl <| gF 4 false 19 21 7 rfl rfl <| gF 4 false 19 22 8 rfl rfl <| gF 4 false 19 23 9 rfl rfl <| sT 24 128 10 rfl <| e1 136 rfl <| keep [0, 3, 4, 8, 9, 10, 24] rfl ?_
   refine q1 rfl (fun hc6 => ?_) (fun hc6 => ?_)
   try simp only [cs, ne_eq] at hc6
   refine r1 <| sT 2 136 1 rfl <| e1 144 rfl <| keep [2] rfl <| W_ret <| tr <| br <| tr <| tr <| br <| tr ?_
   exact out1 2 (SV.i (sfault l)) (π := []) (hout := []) Tryd.results36 rfl (by unfold sfault; rw [if_neg (by omega)]; have hlf : lfault (lstN l k) (l.getD k default) = 11 := (by unfold lfault; rw [if_neg (by rintro ⟨g1, g2⟩; simp_all)]); rw [faultTo_at (by omega) hf (by rw [hlf]; decide), hlf]; rfl) rfl rfl trivial ⟨rfl, rfl⟩
   exact absurd hc6 (by decide)
   try simp only [cs, ne_eq] at hg6_19
   refine gT 4 false 19 6 rfl rfl <| sT 20 96 6 rfl <| gT 4 false 19 7 rfl rfl <| sO 21 104 7 rfl <| gT 4 false 19 8 rfl rfl ?_
   refine c1 (inb_any (l.getD k default).v) [] [] 22 112 8 rfl rfl rfl rfl rfl rfl rfl rfl Tryd.func76 rfl rfl rfl rfl trivial rfl rfl ?_
   refine gT 4 false 19 9 rfl rfl <| sT 23 120 9 rfl <| sT 24 128 10 rfl <| e1 136 rfl <| keep [0, 3, 4, 8, 9, 10, 24] rfl ?_
   refine q1 rfl (fun hc6 => ?_) (fun hc6 => ?_)
   try simp only [cs, ne_eq] at hc6
   refine r1 <| sT 2 136 1 rfl <| e1 144 rfl <| keep [2] rfl <| W_ret <| tr <| br <| tr <| tr <| br <| tr ?_
   exact out1 2 (SV.i (sfault l)) (π := []) (hout := []) Tryd.results36 rfl (by unfold sfault; rw [if_neg (by omega)]; have hlf : lfault (lstN l k) (l.getD k default) = 11 := (by unfold lfault; rw [if_neg (by rintro ⟨g1, g2⟩; simp_all)]); rw [faultTo_at (by omega) hf (by rw [hlf]; decide), hlf]; rfl) rfl rfl trivial ⟨rfl, rfl⟩
   try simp only [cs, ne_eq] at hc6
   refine W_skip <| tn ?_
   refine rd1 rfl ?_
   refine dT 25 136 1 rfl <| dO 26 144 2 rfl <| dT 27 152 3 rfl ?_
   refine ask 27 rfl (fun hg8_27 => ?_) (fun hg8_27 => ?_)
   · skip
     try simp only [cs, ne_eq] at hg8_27
     refine gT 2 true 27 4 rfl rfl <| dT 28 160 4 rfl <| gT 2 true 27 5 rfl rfl <| dO 29 168 5 rfl <| gT 2 true 27 6 rfl rfl <| dT 30 176 6 rfl <| gT 2 true 27 7 rfl rfl <| dT 31 184 7 rfl <| gT 2 true 27 8 rfl rfl <| dAO 32 192 8 rfl <| gT 2 true 27 9 rfl rfl <| dO 33 200 9 rfl <| gT 2 true 27 10 rfl rfl <| dT 34 208 10 rfl <| gT 2 true 27 11 rfl rfl <| dO 35 216 11 rfl ?_
     refine val 35 (SV.i (l.getD (k - 1) default).t) rfl (by rw [show ((k : Int) - 1).toNat = k - 1 by omega]) ?_
     refine gT 2 true 27 12 rfl rfl <| dO 36 224 12 rfl <| dT 37 232 13 rfl <| de1 240 rfl (by kernel_rfl) <| keep [0, 8, 9, 10, 37] rfl ?_
     refine q1 rfl (fun hc8 => ?_) (fun hc8 => ?_)
     · skip
       try simp only [cs, ne_eq] at hc8
       refine r1 <| sT 2 240 1 rfl <| e1 248 rfl <| keep [2] rfl <| W_ret <| br <| tr <| tr <| br <| tr ?_
       exact out1 2 (SV.i (sfault l)) (π := []) (hout := []) Tryd.results36 rfl (by unfold sfault; rw [if_neg (by omega)]; have hlf : lfault (lstN l k) (l.getD k default) = 9 := (by unfold lfault; rw [if_pos (by constructor <;> simp_all), if_pos (by rw [lstN_n, (lstN_t l (by omega)).1]; omega)]); rw [faultTo_at (by omega) hf (by rw [hlf]; decide), hlf]; rfl) rfl rfl trivial ⟨rfl, rfl⟩
     try simp only [cs, ne_eq] at hc8
     refine W_skip <| bn <| tn ?_
     refine r0 ?_
     refine sAO 38 240 1 rfl <| sT 10 248 2 rfl <| e1 256 rfl <| tn ?_
     exact again ((k + 1 : Nat)) [] (show (k + 1) ≤ l.length ∧ faultTo l (k + 1) = 0 from ⟨by omega, faultTo_step hf (by unfold lfault; rw [if_pos (by constructor <;> simp_all), if_neg (by rw [lstN_n]; rintro ⟨g1, g2⟩; rw [(lstN_t l (by omega)).1] at g2; omega)])⟩) (show l.length - (k + 1) < l.length - k from (by omega)) rfl ⟨rfl, rfl, rfl, rfl, trivial⟩ trivial
   try simp only [cs, ne_eq] at hg8_27
   refine gF 2 true 27 28 4 rfl rfl <| gF 2 true 27 29 5 rfl rfl <| gF 2 true 27 30 6 rfl rfl <| gF 2 true 27 31 7 rfl rfl <| gF 2 true 27 32 8 rfl rfl <| gF 2 true 27 33 9 rfl rfl <| gF 2 true 27 34 10 rfl rfl <| gF 2 true 27 35 11 rfl rfl <| gF 2 true 27 36 12 rfl rfl <| dT 37 232 13 rfl <| de1 240 rfl (by kernel_rfl) <| keep [0, 8, 9, 10, 37] rfl ?_
   refine q1 rfl (fun hc8 => ?_) (fun hc8 => ?_)
   exact absurd hc8 (by decide)
   try simp only [cs, ne_eq] at hc8
   refine W_skip <| bn <| tn ?_
   refine r0 ?_
   refine sAO 38 240 1 rfl <| sT 10 248 2 rfl <| e1 256 rfl <| tn ?_
   exact again ((k + 1 : Nat)) [] (show (k + 1) ≤ l.length ∧ faultTo l (k + 1) = 0 from ⟨by omega, faultTo_step hf (by unfold lfault; rw [if_pos (by constructor <;> simp_all), if_neg (by rw [lstN_n]; rintro ⟨g1, g2⟩; rw [(lstN_t l (by omega)).1] at g2; omega)])⟩) (show l.length - (k + 1) < l.length - k from (by omega)) rfl ⟨rfl, rfl, rfl, rfl, trivial⟩ trivial
 try simp only [cs, ne_eq] at hc4
 refine W_exit <| tx <| tx <| bx <| tn <| r1 <| sT 2 8 1 rfl <| e1 16 rfl <| keep [2] rfl <| W_ret ?_
 exact out1 2 (SV.i (sfault l)) (π := []) (hout := []) Tryd.results36 rfl (by unfold sfault; rw [if_neg (by omega), show l.length = k by omega, hf]; rfl) rfl rfl trivial ⟨rfl, rfl⟩
theorem bits_any (fs : List (Nat × Int)) (hl : fs.length ≤ 10) (hf : ∀ i, (fs.getD i (0, 0)).1 ≤ 60 ∧ 0 ≤ (fs.getD i (0, 0)).2 ∧ (fs.getD i (0, 0)).2 ≤ 9223372036854775807) : Spec Tryd.prog GC 37 [fldV fs] [] (fun r ho => r = .sl 0 0 (flatF fs).length ∧ ho = [some (.rows 3 1 (flatF fs).length (intF (flatF fs)))]) := by
 refine start 33 0 Tryd.func37 rfl rfl rfl rfl ?_
 refine r1 <| sT 2 0 1 rfl <| e1 8 rfl <| keep [0] rfl <| r1 <| sT 3 8 1 rfl <| e1 16 rfl <| keep [0, 3] rfl <| W_seq <| r1 <| sT 7 16 1 rfl <| sO 8 24 2 rfl <| sT 9 32 3 rfl <| e1 40 rfl <| keep [3, 7, 8, 9] rfl <| W_block ?_
 refine ghostly 3 3 1 (intF []) rfl ?_
 refine loop (α := Nat × List Int) 1 (fun z => [(3, .sl 0 0 (z.2).length), (7, fldV fs), (8, SV.i fs.length), (9, SV.i (z.1))]) (fun z => [some (.rows 3 1 (z.2).length (intF (z.2)))]) (fun z => (z.1) ≤ fs.length ∧ (z.2) = flatN fs (z.1) ∧ (z.2).length ≤ 60 * (z.1)) (fun z => fs.length - (z.1)) (((0, []) : Nat × List Int)) [40] (fun _ => rfl) (show (0) ≤ fs.length ∧ ([]) = flatN fs (0) ∧ ([]).length ≤ 60 * (0) from ⟨Nat.zero_le _, rfl, by decide⟩) rfl ⟨rfl, rfl, rfl, rfl, trivial⟩ ⟨rfl, trivial⟩ (fun z hx => ?_)
 obtain ⟨q, L⟩ := z
 show W _ _ _ ⟨tOf [(3, .sl 0 0 L.length), (7, fldV fs), (8, SV.i fs.length), (9, SV.i q)], hOf [some (.rows 3 1 L.length (intF L))], 1⟩
 have hx : q ≤ fs.length ∧ L = flatN fs q ∧ L.length ≤ 60 * q := hx
 obtain ⟨hq, hL, hLl⟩ := hx
 have hF := hf q
 refine r1 <| sO 10 1 1 rfl <| e1 9 rfl <| keep [3, 7, 8, 9, 10] rfl <| W_seq ?_
 refine q1 rfl (fun hc3 => ?_) (fun hc3 => ?_)
 try simp only [cs, ne_eq] at hc3
 refine W_skip <| tn <| W_seq <| W_block <| r1 <| sO 11 9 1 rfl <| sO 12 17 2 rfl ?_
 refine val 12 (.agg [SV.i (fs.getD q (0, 0)).1, SV.i (fs.getD q (0, 0)).2]) rfl (by first | rfl | (simp only [Nat.zero_add, Int.toNat_natCast]; rfl)) ?_
 refine sT 5 25 3 rfl <| s0O 33 4 rfl rfl rfl rfl rfl <| e1 41 rfl <| keep [3, 5, 7, 8, 9] rfl <| r1 <| sT 6 41 1 rfl <| e1 49 rfl <| keep [3, 5, 6, 7, 8, 9] rfl <| W_block ?_
 refine loop (α := Nat × List Int × Int) 2 (fun z => [(3, .sl 0 0 (z.2.1).length), (5, .ptr 1 0 0), (6, SV.i (z.2.2)), (7, fldV fs), (8, SV.i fs.length), (9, SV.i q)]) (fun z => [some (.rows 3 1 (z.2.1).length (intF (z.2.1))), some (.cells 82 2 [SV.i (fs.getD q (0, 0)).1, SV.i (fs.getD q (0, 0)).2])]) (fun z => (z.1) ≤ (fs.getD q (0, 0)).1 ∧ (z.2.1) = L ++ (bitsOf (fs.getD q (0, 0)).1 (fs.getD q (0, 0)).2).take (z.1) ∧ (z.2.2) = (z.1) + 1 ∧ (z.2.1).length ≤ 60 * q + (z.1)) (fun z => (fs.getD q (0, 0)).1 - (z.1)) (((0, L, 1) : Nat × List Int × Int)) [0, 25] (fun _ => rfl) (show (0) ≤ (fs.getD q (0, 0)).1 ∧ (L) = L ++ (bitsOf (fs.getD q (0, 0)).1 (fs.getD q (0, 0)).2).take (0) ∧ (1) = (0) + 1 ∧ (L).length ≤ 60 * q + (0) from ⟨Nat.zero_le _, by simp, by simp, by omega⟩) rfl ⟨rfl, rfl, rfl, rfl, rfl, rfl, trivial⟩ ⟨rfl, rfl, trivial⟩ (fun z hx => ?_)
 obtain ⟨j, M, k⟩ := z
 show W _ _ _ ⟨tOf [(3, .sl 0 0 M.length), (5, .ptr 1 0 0), (6, SV.i k), (7, fldV fs), (8, SV.i fs.length), (9, SV.i q)], hOf [some (.rows 3 1 M.length (intF M)), some (.cells 82 2 [SV.i (fs.getD q (0, 0)).1, SV.i (fs.getD q (0, 0)).2])], 2⟩
 have hx : j ≤ (fs.getD q (0, 0)).1 ∧ M = L ++ (bitsOf (fs.getD q (0, 0)).1 (fs.getD q (0, 0)).2).take j ∧ k = j + 1 ∧ M.length ≤ 60 * q + j := hx
 obtain ⟨hj, hM, hk, hMl⟩ := hx
 refine W_seq <| r1 <| sT 13 2 1 rfl <| sT 14 10 2 rfl <| sO 15 18 3 rfl <| sO 16 26 4 rfl <| e1 34 rfl <| keep [3, 5, 6, 7, 8, 9, 16] rfl ?_
 refine q1 rfl (fun hc6 => ?_) (fun hc6 => ?_)
 try simp only [cs, ne_eq] at hc6
 refine W_skip <| tn <| W_seq <| W_block ?_
 refine rd0 rfl ?_
 refine dT 19 34 1 rfl <| dT 20 42 2 rfl <| dO 21 50 3 rfl <| dT 22 58 4 rfl <| dO 23 66 5 rfl <| dT 24 74 6 rfl <| dAO 25 82 7 rfl <| dO 26 90 8 rfl ?_
 refine val 26 (SV.i (2 ^ ((fs.getD q (0, 0)).1 - 1 - j))) rfl (congrArg (fun x => SV.d (D.val (Value.int .i64 x))) (shl_one (by omega) (by omega))) ?_
 refine dD 27 98 9 rfl rfl rfl rfl rfl rfl rfl rfl rfl ⟨hF.2.1, hF.2.2, (by have := pow_in (q := (fs.getD q (0, 0)).1 - 1 - j) (by omega); omega)⟩ ?_
 refine dD 28 106 10 rfl rfl rfl rfl rfl rfl rfl rfl rfl ⟨(quo_in hF.2.1 hF.2.2).1, (quo_in hF.2.1 hF.2.2).2, by decide⟩ ?_
 refine dT 29 114 11 rfl ?_
 refine dV 30 122 12 rfl ⟨Nat.le_refl _, trivial, (by show (M.length + 1) * 8 ≤ 140737488355328; omega), (by simp only [maxLen]; omega)⟩ ?_
 refine dT 3 130 13 rfl <| de1 138 rfl (by kernel_rfl) <| bn <| tn ?_
 refine rowsc 122 (M ++ [((fs.getD q (0, 0)).2 / 2 ^ ((fs.getD q (0, 0)).1 - 1 - j) % 2)]).length (intF (M ++ [((fs.getD q (0, 0)).2 / 2 ^ ((fs.getD q (0, 0)).1 - 1 - j) % 2)])) rfl (by simp) (fun i c hi hc => cat_one rfl i c hi hc) ?_
 refine cval 3 (.sl 122 0 (M ++ [((fs.getD q (0, 0)).2 / 2 ^ ((fs.getD q (0, 0)).1 - 1 - j) % 2)]).length) rfl (by simp) ?_
 refine r0 ?_
 refine sT 17 138 1 rfl <| sAO 18 146 2 rfl <| sT 6 154 3 rfl <| e1 162 rfl <| tn ?_
 exact again (((j + 1, M ++ [((fs.getD q (0, 0)).2 / 2 ^ ((fs.getD q (0, 0)).1 - 1 - j) % 2)], k + 1) : Nat × List Int × Int)) [122, 1] (show (j + 1) ≤ (fs.getD q (0, 0)).1 ∧ (M ++ [((fs.getD q (0, 0)).2 / 2 ^ ((fs.getD q (0, 0)).1 - 1 - j) % 2)]) = L ++ (bitsOf (fs.getD q (0, 0)).1 (fs.getD q (0, 0)).2).take (j + 1) ∧ (k + 1) = (j + 1) + 1 ∧ (M ++ [((fs.getD q (0, 0)).2 / 2 ^ ((fs.getD q (0, 0)).1 - 1 - j) % 2)]).length ≤ 60 * q + (j + 1) from ⟨by omega, by rw [hM, bitsOf_take _ j _ (by omega), List.append_assoc], by omega, by rw [List.length_append]; show M.length + 1 ≤ _; omega⟩) (show (fs.getD q (0, 0)).1 - (j + 1) < (fs.getD q (0, 0)).1 - j from (by omega)) rfl ⟨rfl, rfl, rfl, rfl, rfl, rfl, trivial⟩ ⟨rfl, rfl, trivial⟩
 try simp only [cs, ne_eq] at hc6
 refine W_exit <| tx <| tx <| bx <| bn <| tn ?_
 refine r0 ?_
 refine sAO 31 34 1 rfl <| sT 9 42 2 rfl <| e1 50 rfl <| tn ?_
 exact again (((q + 1, M) : Nat × List Int)) [0] (show (q + 1) ≤ fs.length ∧ (M) = flatN fs (q + 1) ∧ (M).length ≤ 60 * (q + 1) from ⟨by omega, by rw [flatN_succ (by omega), hM, List.take_of_length_le (by rw [bitsOf_length]; omega), hL], by omega⟩) (show fs.length - (q + 1) < fs.length - q from (by omega)) rfl ⟨rfl, rfl, rfl, rfl, trivial⟩ ⟨rfl, trivial⟩
 try simp only [cs, ne_eq] at hc3
 refine W_exit <| tx <| tx <| bx <| tn <| r1 <| sT 32 9 1 rfl <| sT 2 17 2 rfl <| e1 25 rfl <| keep [2] rfl <| W_ret ?_
 obtain rfl : L = flatF fs := (by rw [hL, show q = fs.length by omega, flatN_all])
 exact out1 2 (.sl 0 0 (flatF fs).length) (π := [0]) (hout := [some (.rows 3 1 (flatF fs).length (intF (flatF fs)))]) Tryd.results37 rfl rfl rfl rfl ⟨rfl, trivial⟩ ⟨rfl, rfl⟩
theorem zf_any (x : Int) (h0 : 0 ≤ x) : Spec Tryd.prog GC 40 [SV.i x] [] (fun r ho => r = fldV (zf (cls x) x) ∧ ho = []) := by
 refine start 33 0 Tryd.func40 rfl rfl rfl rfl ?_
 refine r1 <| sT 2 0 1 rfl <| e1 8 rfl <| keep [0] rfl <| W_seq <| W_block <| r1 <| sT 4 8 1 rfl <| sO 5 16 2 rfl <| sT 3 24 3 rfl <| e1 32 rfl <| keep [0, 3] rfl ?_
 refine q1 rfl (fun hc1 => ?_) (fun hc1 => ?_)
 · skip
   try simp only [cs, ne_eq] at hc1
   refine r1 <| sT 6 32 1 rfl ?_
   refine sLit 2 (fldF (zf 0 x)) 7 40 2 rfl rfl rfl rfl rfl rfl rfl rfl rfl (by intro i c hi hc; obtain rfl : i = 0 := (by omega); rcases (show c = 0 ∨ c = 1 by omega) with rfl | rfl <;> rfl) ?_
   refine sT 2 48 3 rfl <| e1 56 rfl <| keep [2] rfl <| W_ret <| br <| tr ?_
   have hcl : cls x = 0 := (by unfold cls; rw [if_pos (by omega)])
   exact out1 2 (fldV (zf (cls x) x)) (π := []) (hout := []) Tryd.results40 rfl (by rw [hcl]; rfl) rfl rfl trivial ⟨rfl, rfl⟩
 try simp only [cs, ne_eq] at hc1
 refine r1 <| sT 9 32 1 rfl <| sO 10 40 2 rfl <| sT 8 48 3 rfl <| e1 56 rfl <| keep [0, 8] rfl ?_
 refine q1 rfl (fun hc3 => ?_) (fun hc3 => ?_)
 · skip
   try simp only [cs, ne_eq] at hc3
   refine r1 <| sT 11 56 1 rfl <| sT 12 64 2 rfl <| sT 13 72 3 rfl ?_
   refine sLit 2 (fldF (zf 1 x)) 14 80 4 rfl rfl rfl rfl rfl rfl rfl rfl rfl (by intro i c hi hc; rcases (show i = 0 ∨ i = 1 by omega) with rfl | rfl <;> rcases (show c = 0 ∨ c = 1 by omega) with rfl | rfl <;> rfl) ?_
   refine sT 2 88 5 rfl <| e1 96 rfl <| keep [2] rfl <| W_ret <| br <| tr ?_
   have hcl : cls x = 1 := (by unfold cls; rw [if_neg (by omega)]; rw [if_pos (by omega)])
   exact out1 2 (fldV (zf (cls x) x)) (π := []) (hout := []) Tryd.results40 rfl (by rw [hcl]; rfl) rfl rfl trivial ⟨rfl, rfl⟩
 try simp only [cs, ne_eq] at hc3
 refine r1 <| sT 16 56 1 rfl <| sO 17 64 2 rfl <| sT 15 72 3 rfl <| e1 80 rfl <| keep [0, 15] rfl ?_
 refine q1 rfl (fun hc5 => ?_) (fun hc5 => ?_)
 · skip
   try simp only [cs, ne_eq] at hc5
   refine r1 <| sT 18 80 1 rfl <| sT 19 88 2 rfl <| sT 20 96 3 rfl ?_
   refine sLit 2 (fldF (zf 2 x)) 21 104 4 rfl rfl rfl rfl rfl rfl rfl rfl rfl (by intro i c hi hc; rcases (show i = 0 ∨ i = 1 by omega) with rfl | rfl <;> rcases (show c = 0 ∨ c = 1 by omega) with rfl | rfl <;> rfl) ?_
   refine sT 2 112 5 rfl <| e1 120 rfl <| keep [2] rfl <| W_ret <| br <| tr ?_
   have hcl : cls x = 2 := (by unfold cls; rw [if_neg (by omega)]; rw [if_neg (by omega)]; rw [if_pos (by omega)])
   exact out1 2 (fldV (zf (cls x) x)) (π := []) (hout := []) Tryd.results40 rfl (by rw [hcl]; rfl) rfl rfl trivial ⟨rfl, rfl⟩
 try simp only [cs, ne_eq] at hc5
 refine r1 <| sT 23 80 1 rfl <| sO 24 88 2 rfl <| sT 22 96 3 rfl <| e1 104 rfl <| keep [0, 22] rfl ?_
 refine q1 rfl (fun hc7 => ?_) (fun hc7 => ?_)
 · skip
   try simp only [cs, ne_eq] at hc7
   refine r1 <| sT 25 104 1 rfl <| sT 26 112 2 rfl <| sT 27 120 3 rfl ?_
   refine sLit 2 (fldF (zf 3 x)) 28 128 4 rfl rfl rfl rfl rfl rfl rfl rfl rfl (by intro i c hi hc; rcases (show i = 0 ∨ i = 1 by omega) with rfl | rfl <;> rcases (show c = 0 ∨ c = 1 by omega) with rfl | rfl <;> rfl) ?_
   refine sT 2 136 5 rfl <| e1 144 rfl <| keep [2] rfl <| W_ret <| br <| tr ?_
   have hcl : cls x = 3 := (by unfold cls; rw [if_neg (by omega)]; rw [if_neg (by omega)]; rw [if_neg (by omega)]; rw [if_pos (by omega)])
   exact out1 2 (fldV (zf (cls x) x)) (π := []) (hout := []) Tryd.results40 rfl (by rw [hcl]; rfl) rfl rfl trivial ⟨rfl, rfl⟩
 try simp only [cs, ne_eq] at hc7
 refine W_skip <| bn <| tn <| r1 <| sT 29 104 1 rfl <| sT 30 112 2 rfl <| sT 31 120 3 rfl ?_
 refine sLit 2 (fldF (zf 4 x)) 32 128 4 rfl rfl rfl rfl rfl rfl rfl rfl rfl (by intro i c hi hc; rcases (show i = 0 ∨ i = 1 by omega) with rfl | rfl <;> rcases (show c = 0 ∨ c = 1 by omega) with rfl | rfl <;> rfl) ?_
 refine sT 2 136 5 rfl <| e1 144 rfl <| keep [2] rfl <| W_ret ?_
 have hcl : cls x = 4 := (by unfold cls; rw [if_neg (by omega)]; rw [if_neg (by omega)]; rw [if_neg (by omega)]; rw [if_neg (by omega)])
 exact out1 2 (fldV (zf (cls x) x)) (π := []) (hout := []) Tryd.results40 rfl (by rw [hcl]; rfl) rfl rfl trivial ⟨rfl, rfl⟩
theorem isSmall_any (n : Int) : Spec Tryd.prog GC 77 [SV.i n] [] (fun r ho => r = SV.b (decide (-288230376151711744 ≤ n) && decide (n < 288230376151711744)) ∧ ho = []) := by
 refine start 9 0 Tryd.func77 rfl rfl rfl rfl ?_
 refine r1 <| sT 2 0 1 rfl <| e1 8 rfl <| keep [0] rfl <| r1 <| sT 3 8 1 rfl <| sO 4 16 2 rfl <| sT 5 24 3 rfl ?_
 refine ask 5 rfl (fun hg1_5 => ?_) (fun hg1_5 => ?_)
 try simp only [cs, ne_eq] at hg1_5
 refine gT 2 true 5 4 rfl rfl <| sT 6 32 4 rfl <| gT 2 true 5 5 rfl rfl <| sO 7 40 5 rfl <| sT 8 48 6 rfl <| sT 2 56 7 rfl <| e1 64 rfl <| keep [2] rfl <| W_ret ?_
 exact out1 2 (SV.b (decide (-288230376151711744 ≤ n) && decide (n < 288230376151711744))) (π := []) (hout := []) Tryd.results77 rfl (by show SV.b _ = SV.b _; refine congrArg SV.b (Bool.eq_iff_iff.2 ?_); simp at *; try omega) rfl rfl trivial ⟨rfl, rfl⟩
 try simp only [cs, ne_eq] at hg1_5
 refine gF 2 true 5 6 4 rfl rfl <| gF 2 true 5 7 5 rfl rfl <| sT 8 48 6 rfl <| sT 2 56 7 rfl <| e1 64 rfl <| keep [2] rfl <| W_ret ?_
 exact out1 2 (SV.b (decide (-288230376151711744 ≤ n) && decide (n < 288230376151711744))) (π := []) (hout := []) Tryd.results77 rfl (by show SV.b _ = SV.b _; refine congrArg SV.b (Bool.eq_iff_iff.2 ?_); simp at *; try omega) rfl rfl trivial ⟨rfl, rfl⟩
theorem zigFold_any (n : Int) (h : isSm n) : Spec Tryd.prog GC 39 [SV.i n] [] (fun r ho => r = SV.tup [SV.i (zFold n), SV.i 0] ∧ ho = []) := by
 have h1 := h.1
 have h2 := h.2
 refine start 14 0 Tryd.func39 rfl rfl rfl rfl ?_
 refine r1 <| sT 2 0 1 rfl <| sT 3 8 2 rfl <| e1 16 rfl <| keep [0] rfl <| W_seq <| r1 <| sT 4 16 1 rfl ?_
 refine c1 (isSmall_any n) [] [] 5 24 2 rfl rfl rfl rfl rfl rfl rfl rfl Tryd.func77 rfl rfl rfl rfl trivial rfl rfl ?_
 refine sT 6 32 3 rfl <| e1 40 rfl <| keep [0, 6] rfl ?_
 refine q1 rfl (fun hc1 => ?_) (fun hc1 => ?_)
 exfalso; simp at hc1; omega
 try simp only [cs, ne_eq] at hc1
 refine W_skip <| tn <| W_seq <| r1 <| sT 7 40 1 rfl <| sO 8 48 2 rfl <| e1 56 rfl <| keep [0, 8] rfl ?_
 refine q1 rfl (fun hc3 => ?_) (fun hc3 => ?_)
 try simp only [cs, ne_eq] at hc3
 refine r1 <| sT 9 56 1 rfl <| sAO 10 64 2 rfl <| sAO 11 72 3 rfl <| sT 2 80 4 rfl <| sT 3 88 5 rfl <| e1 96 rfl <| keep [2, 3] rfl <| W_ret <| tr ?_
 exact out2 2 3 (SV.i (zFold n)) (SV.i 0) (π := []) (hout := []) Tryd.results39 rfl rfl (congrArg (fun x => SV.d (D.val (Value.int .i64 x))) (zFold_neg n (by omega))) rfl rfl rfl trivial ⟨rfl, rfl⟩
 try simp only [cs, ne_eq] at hc3
 refine W_skip <| tn <| r1 <| sT 12 56 1 rfl <| sAO 13 64 2 rfl <| sT 2 72 3 rfl <| sT 3 80 4 rfl <| e1 88 rfl <| keep [2, 3] rfl <| W_ret ?_
 exact out2 2 3 (SV.i (zFold n)) (SV.i 0) (π := []) (hout := []) Tryd.results39 rfl rfl (congrArg (fun x => SV.d (D.val (Value.int .i64 x))) (zFold_pos n (by omega))) rfl rfl rfl trivial ⟨rfl, rfl⟩
theorem nums_any (l : List Smp) (hin : SmpIn l) (hl : l.length ≤ 120) (hz : faultTo l l.length = 0) : Spec Tryd.prog GC 38 [smpV l] [] (fun r ho => r = .sl 0 0 (nums l).length ∧ ho = [some (.rows 3 1 (nums l).length (intF (nums l)))]) := by
 refine start 73 0 Tryd.func38 rfl rfl rfl rfl ?_
 refine r1 <| sT 2 0 1 rfl <| e1 8 rfl <| keep [0] rfl <| r1 <| sT 3 8 1 rfl <| e1 16 rfl <| keep [0, 3] rfl <| W_seq <| r1 <| sT 6 16 1 rfl <| sO 7 24 2 rfl <| sT 8 32 3 rfl <| e1 40 rfl <| keep [0, 3, 6, 7, 8] rfl <| W_block ?_
 refine ghostly 3 3 1 (intF []) rfl ?_
 refine loop (α := Nat × List Int) 1 (fun z => [(0, smpV l), (3, .sl 0 0 (z.2).length), (6, smpV l), (7, SV.i l.length), (8, SV.i (z.1))]) (fun z => [some (.rows 3 1 (z.2).length (intF (z.2)))]) (fun z => (z.1) ≤ l.length ∧ (z.2) = numsN l (z.1) ∧ (z.2).length = 2 * (z.1)) (fun z => l.length - (z.1)) (((0, []) : Nat × List Int)) [40] (fun _ => rfl) (show (0) ≤ l.length ∧ ([]) = numsN l (0) ∧ ([]).length = 2 * (0) from ⟨Nat.zero_le _, rfl, rfl⟩) rfl ⟨rfl, rfl, rfl, rfl, rfl, trivial⟩ ⟨rfl, trivial⟩ (fun z hx => ?_)
 obtain ⟨k, M⟩ := z
 show W _ _ _ ⟨tOf [(0, smpV l), (3, .sl 0 0 M.length), (6, smpV l), (7, SV.i l.length), (8, SV.i k)], hOf [some (.rows 3 1 M.length (intF M))], 1⟩
 have hx : k ≤ l.length ∧ M = numsN l k ∧ M.length = 2 * k := hx
 obtain ⟨hk, hM, hMl⟩ := hx
 refine r1 <| sO 9 1 1 rfl <| e1 9 rfl <| keep [0, 3, 6, 7, 8, 9] rfl <| W_seq ?_
 refine q1 rfl (fun hc3 => ?_) (fun hc3 => ?_)
 try simp only [cs, ne_eq] at hc3
 have hs := smp_at hz (show k < l.length by omega)
 obtain ⟨g1, g2⟩ := hs.1
 obtain ⟨g3, g4⟩ := hs.2.1
 have ho := (smp_at hz (show k - 1 < l.length by omega)).1
 have ho2 := (smp_at hz (show k - 1 < l.length by omega)).2.1
 have ho3 := (smp_at hz (show k - 2 < l.length by omega)).1
 have ho4 := (smp_at hz (show 0 < l.length by omega)).1
 have ho5 := (smp_at hz (show 0 < l.length by omega)).2.1
 unfold inB at ho ho2 ho3 ho4 ho5
 refine W_skip <| tn <| W_seq <| W_block <| r1 <| sT 10 9 1 rfl <| sO 11 17 2 rfl <| sO 12 25 3 rfl ?_
 refine val 12 (smpS (l.getD k default)) rfl (by first | rfl | (simp only [Nat.zero_add, Int.toNat_natCast]; rfl)) ?_
 refine sT 5 33 4 rfl <| sT 4 41 5 rfl <| s0O 49 6 rfl rfl rfl rfl rfl <| e1 57 rfl <| keep [0, 3, 4, 5, 6, 7, 8] rfl <| r1 <| sT 13 57 1 rfl <| e1 65 rfl <| keep [0, 3, 4, 5, 6, 7, 8, 13] rfl <| W_block <| r1 <| sO 44 65 1 rfl <| sT 43 73 2 rfl <| e1 81 rfl <| keep [0, 3, 4, 5, 6, 7, 8, 13, 43] rfl ?_
 refine q1 rfl (fun hc7 => ?_) (fun hc7 => ?_)
 try simp only [cs, ne_eq] at hc7
 refine r0 ?_
 refine sT 45 81 1 rfl <| sT 46 89 2 rfl <| sO 47 97 3 rfl <| sT 48 105 4 rfl <| sO 49 113 5 rfl <| sT 50 121 6 rfl ?_
 refine sV 51 129 7 rfl ⟨Nat.le_refl _, trivial, (by show (M.length + 2) * 8 ≤ 140737488355328; omega), (by simp only [maxLen]; omega)⟩ ?_
 refine sT 3 137 8 rfl <| e1 145 rfl <| bn <| bn <| tn ?_
 refine rowsc 129 (M ++ [cT (lstN l k) (l.getD k default), cV (lstN l k) (l.getD k default)]).length (intF (M ++ [cT (lstN l k) (l.getD k default), cV (lstN l k) (l.getD k default)])) rfl (by simp) (fun i c hi hc => cat_two (by rw [cT_eq, if_pos (by omega)]) (by rw [cV_eq, if_pos (by omega)]) i c hi hc) ?_
 refine cval 3 (.sl 129 0 (M ++ [cT (lstN l k) (l.getD k default), cV (lstN l k) (l.getD k default)]).length) rfl (by simp) ?_
 refine r0 ?_
 refine sAO 71 145 1 rfl <| sT 8 153 2 rfl <| e1 161 rfl <| tn ?_
 exact again (((k + 1, M ++ [cT (lstN l k) (l.getD k default), cV (lstN l k) (l.getD k default)]) : Nat × List Int)) [129] (show (k + 1) ≤ l.length ∧ (M ++ [cT (lstN l k) (l.getD k default), cV (lstN l k) (l.getD k default)]) = numsN l (k + 1) ∧ (M ++ [cT (lstN l k) (l.getD k default), cV (lstN l k) (l.getD k default)]).length = 2 * (k + 1) from ⟨by omega, by rw [numsN_succ, hM], by rw [List.length_append]; show M.length + 2 = _; omega⟩) (show l.length - (k + 1) < l.length - k from (by omega)) rfl ⟨rfl, rfl, rfl, rfl, rfl, trivial⟩ ⟨rfl, trivial⟩
 try simp only [cs, ne_eq] at hc7
 refine r1 <| sO 53 81 1 rfl <| sT 52 89 2 rfl <| e1 97 rfl <| keep [0, 3, 4, 5, 6, 7, 8, 52] rfl ?_
 refine q1 rfl (fun hc9 => ?_) (fun hc9 => ?_)
 try simp only [cs, ne_eq] at hc9
 refine rd0 rfl ?_
 refine dT 54 97 1 rfl <| dT 55 105 2 rfl <| dO 56 113 3 rfl <| dT 57 121 4 rfl <| dO 58 129 5 rfl <| dT 59 137 6 rfl <| dO 60 145 7 rfl ?_
 refine val 60 (SV.i (l.getD 0 default).t) rfl rfl ?_
 refine dAO 61 153 8 rfl <| dT 62 161 9 rfl <| dO 63 169 10 rfl <| dT 64 177 11 rfl <| dO 65 185 12 rfl <| dT 66 193 13 rfl <| dO 67 201 14 rfl ?_
 refine val 67 (SV.i (l.getD 0 default).v) rfl rfl ?_
 refine dAO 68 209 15 rfl <| dT 69 217 16 rfl ?_
 refine dV 70 225 17 rfl ⟨Nat.le_refl _, trivial, (by show (M.length + 2) * 8 ≤ 140737488355328; omega), (by simp only [maxLen]; omega)⟩ ?_
 refine dT 3 233 18 rfl <| de1 241 rfl (by kernel_rfl) <| bn <| bn <| tn ?_
 refine rowsc 225 (M ++ [cT (lstN l k) (l.getD k default), cV (lstN l k) (l.getD k default)]).length (intF (M ++ [cT (lstN l k) (l.getD k default), cV (lstN l k) (l.getD k default)])) rfl (by simp) (fun i c hi hc => cat_two (by rw [cT_eq, if_neg (by omega), if_pos (by omega)]) (by rw [cV_eq, if_neg (by omega), show k - 1 = 0 by omega]) i c hi hc) ?_
 refine cval 3 (.sl 225 0 (M ++ [cT (lstN l k) (l.getD k default), cV (lstN l k) (l.getD k default)]).length) rfl (by simp) ?_
 refine r0 ?_
 refine sAO 71 241 1 rfl <| sT 8 249 2 rfl <| e1 257 rfl <| tn ?_
 exact again (((k + 1, M ++ [cT (lstN l k) (l.getD k default), cV (lstN l k) (l.getD k default)]) : Nat × List Int)) [225] (show (k + 1) ≤ l.length ∧ (M ++ [cT (lstN l k) (l.getD k default), cV (lstN l k) (l.getD k default)]) = numsN l (k + 1) ∧ (M ++ [cT (lstN l k) (l.getD k default), cV (lstN l k) (l.getD k default)]).length = 2 * (k + 1) from ⟨by omega, by rw [numsN_succ, hM], by rw [List.length_append]; show M.length + 2 = _; omega⟩) (show l.length - (k + 1) < l.length - k from (by omega)) rfl ⟨rfl, rfl, rfl, rfl, rfl, trivial⟩ ⟨rfl, trivial⟩
 try simp only [cs, ne_eq] at hc9
 refine rd0 rfl ?_
 refine dT 14 97 1 rfl <| dT 15 105 2 rfl <| dO 16 113 3 rfl <| dT 17 121 4 rfl <| dT 18 129 5 rfl <| dAO 19 137 6 rfl <| dO 20 145 7 rfl <| dT 21 153 8 rfl <| dO 22 161 9 rfl ?_
 refine val 22 (SV.i (l.getD (k - 1) default).t) rfl (by rw [show ((k : Int) - 1).toNat = k - 1 by omega]) ?_
 refine dAO 23 169 10 rfl <| dAO 24 177 11 rfl <| dT 25 185 12 rfl <| dT 26 193 13 rfl <| dAO 27 201 14 rfl <| dO 28 209 15 rfl <| dT 29 217 16 rfl <| dO 30 225 17 rfl ?_
 refine val 30 (SV.i (l.getD (k - 2) default).t) rfl (by rw [show ((k : Int) - 2).toNat = k - 2 by omega]) ?_
 refine dAO 31 233 18 rfl <| dT 32 241 19 rfl <| dO 33 249 20 rfl <| dT 34 257 21 rfl <| dT 35 265 22 rfl <| dAO 36 273 23 rfl <| dO 37 281 24 rfl <| dT 38 289 25 rfl <| dO 39 297 26 rfl ?_
 refine val 39 (SV.i (l.getD (k - 1) default).v) rfl (by rw [show ((k : Int) - 1).toNat = k - 1 by omega]) ?_
 refine dAO 40 305 27 rfl <| dT 41 313 28 rfl ?_
 refine dV 42 321 29 rfl ⟨Nat.le_refl _, trivial, (by show (M.length + 2) * 8 ≤ 140737488355328; omega), (by simp only [maxLen]; omega)⟩ ?_
 refine dT 3 329 30 rfl <| de1 337 rfl (by kernel_rfl) <| bn <| bn <| tn ?_
 refine rowsc 321 (M ++ [cT (lstN l k) (l.getD k default), cV (lstN l k) (l.getD k default)]).length (intF (M ++ [cT (lstN l k) (l.getD k default), cV (lstN l k) (l.getD k default)])) rfl (by simp) (fun i c hi hc => cat_two (by rw [cT_eq, if_neg (by omega), if_neg (by omega)]) (by rw [cV_eq, if_neg (by omega)]) i c hi hc) ?_
 refine cval 3 (.sl 321 0 (M ++ [cT (lstN l k) (l.getD k default), cV (lstN l k) (l.getD k default)]).length) rfl (by simp) ?_
 refine r0 ?_
 refine sAO 71 337 1 rfl <| sT 8 345 2 rfl <| e1 353 rfl <| tn ?_
 exact again (((k + 1, M ++ [cT (lstN l k) (l.getD k default), cV (lstN l k) (l.getD k default)]) : Nat × List Int)) [321] (show (k + 1) ≤ l.length ∧ (M ++ [cT (lstN l k) (l.getD k default), cV (lstN l k) (l.getD k default)]) = numsN l (k + 1) ∧ (M ++ [cT (lstN l k) (l.getD k default), cV (lstN l k) (l.getD k default)]).length = 2 * (k + 1) from ⟨by omega, by rw [numsN_succ, hM], by rw [List.length_append]; show M.length + 2 = _; omega⟩) (show l.length - (k + 1) < l.length - k from (by omega)) rfl ⟨rfl, rfl, rfl, rfl, rfl, trivial⟩ ⟨rfl, trivial⟩
 try simp only [cs, ne_eq] at hc3
 refine W_exit <| tx <| tx <| bx <| tn <| r1 <| sT 72 9 1 rfl <| sT 2 17 2 rfl <| e1 25 rfl <| keep [2] rfl <| W_ret ?_
 obtain rfl : M = nums l := (by rw [hM, show k = l.length by omega]; rfl)
 exact out1 2 (.sl 0 0 (nums l).length) (π := [0]) (hout := [some (.rows 3 1 (nums l).length (intF (nums l)))]) Tryd.results38 rfl rfl rfl rfl ⟨rfl, trivial⟩ ⟨rfl, rfl⟩
theorem byteList_any (L : List Int) (hL : AllBits L) (hl : L.length ≤ 1000000) : Spec Tryd.prog GC 41 [intV L] [] (fun r ho => r = .sl 0 0 (pack L).length ∧ ho = [some (.rows 5 1 (pack L).length (u8F (pack L)))]) := by
 refine start 33 0 Tryd.func41 rfl rfl rfl rfl ?_
 refine r1 <| sT 2 0 1 rfl <| e1 8 rfl <| keep [0] rfl <| r1 <| sT 3 8 1 rfl <| e1 16 rfl <| keep [0, 3] rfl <| W_seq <| r1 <| sT 6 16 1 rfl <| sO 7 24 2 rfl <| sT 8 32 3 rfl <| e1 40 rfl <| keep [3, 6, 7, 8] rfl <| W_block ?_
 refine ghostly 3 5 1 (u8F []) rfl ?_
 refine loop (α := Nat × List Int) 1 (fun z => [(3, .sl 0 0 (pack (z.2)).length), (6, intV L), (7, SV.i L.length), (8, SV.i (z.1))]) (fun z => [some (.rows 5 1 (pack (z.2)).length (u8F (pack (z.2))))]) (fun z => (z.1) ≤ L.length ∧ (z.2) = L.take (z.1)) (fun z => L.length - (z.1)) (((0, []) : Nat × List Int)) [40] (fun _ => rfl) (show (0) ≤ L.length ∧ ([]) = L.take (0) from ⟨Nat.zero_le _, by simp⟩) rfl ⟨rfl, rfl, rfl, rfl, trivial⟩ ⟨rfl, trivial⟩ (fun z hx => ?_)
 obtain ⟨k, M⟩ := z
 show W _ _ _ ⟨tOf [(3, .sl 0 0 (pack M).length), (6, intV L), (7, SV.i L.length), (8, SV.i k)], hOf [some (.rows 5 1 (pack M).length (u8F (pack M)))], 1⟩
 have hx : k ≤ L.length ∧ M = L.take k := hx
 obtain ⟨hk, hM⟩ := hx
 have hA : AllBits M := (by rw [hM]; exact hL.take k)
 have hMk : M.length = k := (by rw [hM, List.length_take]; omega)
 have hpl : (pack M).length ≤ 200000 := (by rw [pack_length]; omega)
 have hrl := packRoom_length M
 have hbit := hL.getD k
 refine r1 <| sO 9 1 1 rfl <| e1 9 rfl <| keep [3, 6, 7, 8, 9] rfl <| W_seq ?_
 refine q1 rfl (fun hc3 => ?_) (fun hc3 => ?_)
 try simp only [cs, ne_eq] at hc3
 refine W_skip <| tn <| W_seq <| W_block <| r1 <| sT 10 9 1 rfl <| sO 11 17 2 rfl <| sO 12 25 3 rfl ?_
 refine val 12 (SV.i (L.getD k 0)) rfl (by first | rfl | (simp only [Nat.zero_add, Int.toNat_natCast]; rfl)) ?_
 refine sT 4 33 4 rfl <| sT 5 41 5 rfl <| e1 49 rfl <| keep [3, 4, 5, 6, 7, 8] rfl <| W_seq <| r1 <| sT 13 49 1 rfl ?_
 refine sD 14 57 2 rfl rfl rfl rfl rfl rfl rfl rfl rfl (by omega) ?_
 refine sO 15 65 3 rfl <| e1 73 rfl <| keep [3, 4, 5, 6, 7, 8, 15] rfl ?_
 refine q1 rfl (fun hc5 => ?_) (fun hc5 => ?_)
 try simp only [cs, ne_eq] at hc5
 refine r0 ?_
 refine sT 16 73 1 rfl <| sT 17 81 2 rfl ?_
 refine sV 18 89 3 rfl ⟨Nat.le_refl _, trivial, (by show ((pack M).length + 1) * 1 ≤ 140737488355328; omega), (by simp only [maxLen]; omega)⟩ ?_
 refine sT 3 97 4 rfl <| e1 105 rfl <| tn ?_
 refine rowsc 89 (packRoom M).length (u8F (packRoom M)) rfl (by rw [hrl, pack_length]; omega) (fun i c hi hc => room_cat (by omega) i c hi hc) ?_
 refine cval 3 (.sl 89 0 (packRoom M).length) rfl (by rw [show (packRoom M).length = (pack M).length + 1 from (by rw [hrl, pack_length]; omega)]) ?_
 refine r1 <| sT 19 105 1 rfl <| sO 20 113 2 rfl <| e1 121 rfl <| keep [3, 4, 6, 7, 8, 20] rfl ?_
 refine q1 rfl (fun hc7 => ?_) (fun hc7 => ?_)
 try simp only [cs, ne_eq] at hc7
 have hb1 : L.getD k 0 = 1 := hc7
 refine rd0 rfl ?_
 refine dT 21 121 1 rfl <| dT 22 129 2 rfl ?_
 refine dD 23 137 3 rfl rfl rfl rfl rfl rfl rfl rfl rfl (by omega) ?_
 refine dO 24 145 4 rfl ?_
 refine val 24 (.ptr 89 (M.length / 8) 0) rfl (by rw [show ((k : Int) / 8).toNat = M.length / 8 by omega, Nat.zero_add]) ?_
 refine dO 25 153 5 rfl ?_
 refine val 25 (.d (.val (.int .u8 (packByte M (M.length / 8))))) rfl (by rw [room_get M _ (by omega)]) ?_
 refine dT 26 161 6 rfl ?_
 refine dD 27 169 7 rfl rfl rfl rfl rfl rfl rfl rfl rfl (by omega) ?_
 refine dO 28 177 8 rfl ?_
 refine val 28 (.d (.val (.int .u8 (2 ^ (7 - M.length % 8))))) rfl (congrArg (fun x => SV.d (D.val (Value.int .u8 x))) (shr128 (by omega) (by omega))) ?_
 refine dO 29 185 9 rfl ?_
 refine val 29 (.d (.val (.int .u8 (packByte M (M.length / 8) + 1 * 2 ^ (7 - M.length % 8))))) rfl (congrArg (fun x => SV.d (D.val (Value.int .u8 x))) (add_bit hA)) ?_
 refine dO 30 193 10 rfl ?_
 refine val 30 (.ptr 89 (M.length / 8) 0) rfl (by rw [show ((k : Int) / 8).toNat = M.length / 8 by omega, Nat.zero_add]) ?_
 refine d0 201 11 rfl rfl rfl rfl rfl (by omega) ?_
 refine de1 209 rfl (by kernel_rfl) <| bn <| tn ?_
 refine rowsc 89 (pack (M ++ [1])).length (u8F (pack (M ++ [1]))) rfl (room_len _) (fun i c hi hc => room_set hA 1 _ rfl i c hi hc) ?_
 refine cval 3 (.sl 89 0 (pack (M ++ [1])).length) rfl (by rw [← room_len]) ?_
 refine r0 ?_
 refine sAO 31 209 1 rfl <| sT 8 217 2 rfl <| e1 225 rfl <| tn ?_
 exact again (((k + 1, M ++ [1]) : Nat × List Int)) [89] (show (k + 1) ≤ L.length ∧ (M ++ [1]) = L.take (k + 1) from ⟨by omega, by rw [hM, bit_take L k (by omega), hb1]⟩) (show L.length - (k + 1) < L.length - k from (by omega)) rfl ⟨rfl, rfl, rfl, rfl, trivial⟩ ⟨rfl, trivial⟩
 try simp only [cs, ne_eq] at hc7
 have hb0 : L.getD k 0 = 0 := (by rcases hbit with h | h; exact h; exact absurd h hc7)
 refine W_skip <| bn <| tn ?_
 refine rowsc 89 (pack (M ++ [0])).length (u8F (pack (M ++ [0]))) rfl (room_len _) (fun i c hi hc => by rw [pack_zero M hA]) ?_
 refine cval 3 (.sl 89 0 (pack (M ++ [0])).length) rfl (by rw [← room_len]) ?_
 refine r0 ?_
 refine sAO 31 121 1 rfl <| sT 8 129 2 rfl <| e1 137 rfl <| tn ?_
 exact again (((k + 1, M ++ [0]) : Nat × List Int)) [89] (show (k + 1) ≤ L.length ∧ (M ++ [0]) = L.take (k + 1) from ⟨by omega, by rw [hM, bit_take L k (by omega), hb0]⟩) (show L.length - (k + 1) < L.length - k from (by omega)) rfl ⟨rfl, rfl, rfl, rfl, trivial⟩ ⟨rfl, trivial⟩
 try simp only [cs, ne_eq] at hc5
 refine W_skip <| tn ?_
 refine rowsc 0 (packRoom M).length (u8F (packRoom M)) rfl (by rw [room_same (by omega)]) (fun i c hi hc => by rw [room_same (by omega)]) ?_
 refine cval 3 (.sl 0 0 (packRoom M).length) rfl (by rw [room_same (by omega)]) ?_
 refine r1 <| sT 19 73 1 rfl <| sO 20 81 2 rfl <| e1 89 rfl <| keep [3, 4, 6, 7, 8, 20] rfl ?_
 refine q1 rfl (fun hc7 => ?_) (fun hc7 => ?_)
 try simp only [cs, ne_eq] at hc7
 have hb1 : L.getD k 0 = 1 := hc7
 refine rd0 rfl ?_
 refine dT 21 89 1 rfl <| dT 22 97 2 rfl ?_
 refine dD 23 105 3 rfl rfl rfl rfl rfl rfl rfl rfl rfl (by omega) ?_
 refine dO 24 113 4 rfl ?_
 refine val 24 (.ptr 0 (M.length / 8) 0) rfl (by rw [show ((k : Int) / 8).toNat = M.length / 8 by omega, Nat.zero_add]) ?_
 refine dO 25 121 5 rfl ?_
 refine val 25 (.d (.val (.int .u8 (packByte M (M.length / 8))))) rfl (by rw [room_get M _ (by omega)]) ?_
 refine dT 26 129 6 rfl ?_
 refine dD 27 137 7 rfl rfl rfl rfl rfl rfl rfl rfl rfl (by omega) ?_
 refine dO 28 145 8 rfl ?_
 refine val 28 (.d (.val (.int .u8 (2 ^ (7 - M.length % 8))))) rfl (congrArg (fun x => SV.d (D.val (Value.int .u8 x))) (shr128 (by omega) (by omega))) ?_
 refine dO 29 153 9 rfl ?_
 refine val 29 (.d (.val (.int .u8 (packByte M (M.length / 8) + 1 * 2 ^ (7 - M.length % 8))))) rfl (congrArg (fun x => SV.d (D.val (Value.int .u8 x))) (add_bit hA)) ?_
 refine dO 30 161 10 rfl ?_
 refine val 30 (.ptr 0 (M.length / 8) 0) rfl (by rw [show ((k : Int) / 8).toNat = M.length / 8 by omega, Nat.zero_add]) ?_
 refine d0 169 11 rfl rfl rfl rfl rfl (by omega) ?_
 refine de1 177 rfl (by kernel_rfl) <| bn <| tn ?_
 refine rowsc 0 (pack (M ++ [1])).length (u8F (pack (M ++ [1]))) rfl (room_len _) (fun i c hi hc => room_set hA 1 _ rfl i c hi hc) ?_
 refine cval 3 (.sl 0 0 (pack (M ++ [1])).length) rfl (by rw [← room_len]) ?_
 refine r0 ?_
 refine sAO 31 177 1 rfl <| sT 8 185 2 rfl <| e1 193 rfl <| tn ?_
 exact again (((k + 1, M ++ [1]) : Nat × List Int)) [0] (show (k + 1) ≤ L.length ∧ (M ++ [1]) = L.take (k + 1) from ⟨by omega, by rw [hM, bit_take L k (by omega), hb1]⟩) (show L.length - (k + 1) < L.length - k from (by omega)) rfl ⟨rfl, rfl, rfl, rfl, trivial⟩ ⟨rfl, trivial⟩
 try simp only [cs, ne_eq] at hc7
 have hb0 : L.getD k 0 = 0 := (by rcases hbit with h | h; exact h; exact absurd h hc7)
 refine W_skip <| bn <| tn ?_
 refine rowsc 0 (pack (M ++ [0])).length (u8F (pack (M ++ [0]))) rfl (room_len _) (fun i c hi hc => by rw [pack_zero M hA]) ?_
 refine cval 3 (.sl 0 0 (pack (M ++ [0])).length) rfl (by rw [← room_len]) ?_
 refine r0 ?_
 refine sAO 31 89 1 rfl <| sT 8 97 2 rfl <| e1 105 rfl <| tn ?_
 exact again (((k + 1, M ++ [0]) : Nat × List Int)) [0] (show (k + 1) ≤ L.length ∧ (M ++ [0]) = L.take (k + 1) from ⟨by omega, by rw [hM, bit_take L k (by omega), hb0]⟩) (show L.length - (k + 1) < L.length - k from (by omega)) rfl ⟨rfl, rfl, rfl, rfl, trivial⟩ ⟨rfl, trivial⟩
 try simp only [cs, ne_eq] at hc3
 refine W_exit <| tx <| tx <| bx <| tn <| r1 <| sT 32 9 1 rfl <| sT 2 17 2 rfl <| e1 25 rfl <| keep [2] rfl <| W_ret ?_
 obtain rfl : L = M := (by rw [hM, List.take_of_length_le (by omega)])
 exact out1 2 (.sl 0 0 (pack L).length) (π := [0]) (hout := [some (.rows 5 1 (pack L).length (u8F (pack L)))]) Tryd.results41 rfl rfl rfl rfl ⟨rfl, trivial⟩ ⟨rfl, rfl⟩
theorem encoded_ok (l : List Smp) (hin : SmpIn l) (hz : sfault l = 0) : Spec Tryd.prog GC 15 [smpV l] [] (fun r ho => r = SV.tup [.sl 0 0 (encB l).length, SV.i 0] ∧ ho = [some (.rows 5 1 (encB l).length (u8F (encB l)))]) := by
 have hl : l.length ≤ 120 := (by unfold sfault at hz; by_cases h : 120 < l.length; (rw [if_pos h] at hz; cases hz); omega)
 have hz2 : faultTo l l.length = 0 := (by unfold sfault at hz; rw [if_neg (by omega)] at hz; exact hz)
 have hnl : (nums l).length = 2 * l.length := numsN_len l _
 have hsm := nums_sm hz2 hl
 refine start 40 0 Tryd.func15 rfl rfl rfl rfl ?_
 refine r1 <| sT 2 0 1 rfl <| sT 3 8 2 rfl <| e1 16 rfl <| keep [0] rfl <| W_seq <| r1 <| sT 10 16 1 rfl ?_
 refine c1 (sfault_any l hin) [] [] 11 24 2 rfl rfl rfl rfl rfl rfl rfl rfl Tryd.func36 rfl rfl rfl rfl trivial rfl rfl ?_
 refine sT 4 32 3 rfl <| e1 40 rfl <| keep [0, 4] rfl <| r1 <| sT 12 40 1 rfl <| sO 13 48 2 rfl <| e1 56 rfl <| keep [0, 4, 13] rfl ?_
 refine q1 rfl (fun hc2 => ?_) (fun hc2 => ?_)
 exact absurd hz (by simpa using hc2)
 try simp only [cs, ne_eq] at hc2
 refine W_skip <| tn <| r1 <| sT 15 56 1 rfl <| sO 16 64 2 rfl <| sT 17 72 3 rfl ?_
 refine sLit 2 (fldF [(8, (l.length : Int))]) 18 80 4 rfl rfl rfl rfl rfl rfl rfl rfl rfl (by intro i c hi hc; obtain rfl : i = 0 := (by omega); rcases (show c = 0 ∨ c = 1 by omega) with rfl | rfl <;> rfl) ?_
 refine c1 (bits_any [(8, (l.length : Int))] (by simp) (fun i => by match i with | 0 => exact ⟨(by show (8 : Nat) ≤ 60; decide), (by show (0 : Int) ≤ l.length; omega), (by show (l.length : Int) ≤ _; omega)⟩ | i + 1 => exact ⟨(by simp), (by simp), (by simp)⟩)) [] [88] 19 88 5 rfl rfl rfl rfl rfl rfl rfl rfl Tryd.func37 rfl rfl rfl rfl trivial rfl rfl ?_
 refine sT 5 96 6 rfl <| e1 104 rfl <| keep [0, 5] rfl <| W_seq ?_
 refine rowsc 88 (refL l 0).length (intF (refL l 0)) rfl (by simp [flatF, refL]) (fun i c hi hc => by rw [show flatF [(8, (l.length : Int))] = refL l 0 from by simp [flatF, refL]]) ?_
 refine cval 5 (.sl 88 0 (refL l 0).length) rfl (by simp [flatF, refL]) ?_
 refine r1 <| sT 20 104 1 rfl ?_
 refine c1 (nums_any l hin hl hz2) [] [112] 21 112 2 rfl rfl rfl rfl rfl rfl rfl rfl Tryd.func38 rfl rfl rfl rfl trivial rfl rfl ?_
 refine sO 22 120 3 rfl <| sT 23 128 4 rfl <| e1 136 rfl <| keep [5, 21, 22, 23] rfl <| W_block ?_
 refine freeze 21 112 (nums l).length rfl rfl (Nat.le_refl _) ?_
 refine loop (α := Nat) 1 (fun q => [(5, .sl 0 0 (refL l (q)).length), (21, intV (nums l)), (22, SV.i (nums l).length), (23, SV.i (q))]) (fun q => [some (.rows 3 1 (refL l (q)).length (intF (refL l (q))))]) (fun q => (q) ≤ (nums l).length) (fun q => (nums l).length - (q)) (((0) : Nat)) [88] (fun _ => rfl) (show (0) ≤ (nums l).length from (Nat.zero_le _)) rfl ⟨rfl, rfl, rfl, rfl, trivial⟩ ⟨rfl, trivial⟩ (fun q hx => ?_)
 show W _ _ _ ⟨tOf [(5, .sl 0 0 (refL l q).length), (21, intV (nums l)), (22, SV.i (nums l).length), (23, SV.i q)], hOf [some (.rows 3 1 (refL l q).length (intF (refL l q)))], 1⟩
 have hx : q ≤ (nums l).length := hx
 have hrl := refL_len l q
 refine r1 <| sO 24 1 1 rfl <| e1 9 rfl <| keep [5, 21, 22, 23, 24] rfl <| W_seq ?_
 refine q1 rfl (fun hc6 => ?_) (fun hc6 => ?_)
 · skip
   try simp only [cs, ne_eq] at hc6
   have hn := hsm _ (getI_mem (show q < (nums l).length by omega))
   have hb := zFold_bd _ hn.1 hn.2
   have hzf := zf_ok hb.1 (by omega) (cls (zFold ((nums l).getD q 0))) (cls_lt _)
   have hzb := zbits_len ((nums l).getD q 0)
   have hfl : flatF (zf (cls (zFold ((nums l).getD q 0))) (zFold ((nums l).getD q 0))) = zbits ((nums l).getD q 0) := (by rw [zf_flat (fun h => by unfold cls at h; split at h; assumption; split at h; cases h; split at h; cases h; split at h <;> cases h)]; rfl)
   refine W_skip <| tn <| W_seq <| W_block <| r1 <| sO 25 9 1 rfl <| sO 26 17 2 rfl ?_
   refine val 26 (SV.i ((nums l).getD q 0)) rfl (by first | rfl | (simp only [Nat.zero_add, Int.toNat_natCast]; rfl)) ?_
   refine sT 7 25 3 rfl <| e1 33 rfl <| keep [5, 7, 21, 22, 23] rfl <| r1 <| sT 28 33 1 rfl ?_
   refine c1 (zigFold_any ((nums l).getD q 0) hn) [] [] 29 41 2 rfl rfl rfl rfl rfl rfl rfl rfl Tryd.func39 rfl rfl rfl rfl trivial rfl rfl ?_
   refine sT 27 49 3 rfl <| sT 30 57 4 rfl <| sT 31 65 5 rfl <| sT 8 73 6 rfl <| sT 9 81 7 rfl <| e1 89 rfl <| keep [5, 8, 21, 22, 23] rfl ?_
   refine r0 ?_
   refine sT 32 89 1 rfl <| sT 33 97 2 rfl ?_
   refine c1 (zf_any (zFold ((nums l).getD q 0)) hb.1) [] [] 34 105 3 rfl rfl rfl rfl rfl rfl rfl rfl Tryd.func40 rfl rfl rfl rfl trivial rfl rfl ?_
   refine c1 (bits_any (zf (cls (zFold ((nums l).getD q 0))) (zFold ((nums l).getD q 0))) (by omega) hzf.2) [] [113] 35 113 4 rfl rfl rfl rfl rfl rfl rfl rfl Tryd.func37 rfl rfl rfl rfl trivial rfl rfl ?_
   refine sV 36 121 5 rfl ⟨Nat.le_refl _, (by omega), (by rw [hfl]; show ((refL l q).length + (zbits ((nums l).getD q 0)).length) * 8 ≤ 140737488355328; omega), (by rw [hfl]; simp only [maxLen]; omega)⟩ ?_
   refine sT 5 129 6 rfl <| e1 137 rfl <| bn <| tn ?_
   refine rowsc 121 (refL l (q + 1)).length (intF (refL l (q + 1))) rfl (by rw [refL_succ (by omega), List.length_append, hfl]) (fun i c hi hc => by show catR (intF (refL l q)) (refL l q).length (intF (flatF (zf (cls (zFold ((nums l).getD q 0))) (zFold ((nums l).getD q 0))))) i c = _; rw [cat_int i c hi hc, refL_succ (by omega), hfl]) ?_
   refine cval 5 (.sl 121 0 (refL l (q + 1)).length) rfl (by rw [refL_succ (by omega), List.length_append, hfl]) ?_
   refine r0 ?_
   refine sAO 37 137 1 rfl <| sT 23 145 2 rfl <| e1 153 rfl <| tn ?_
   exact again ((q + 1 : Nat)) [121] (show (q + 1) ≤ (nums l).length from (by omega)) (show (nums l).length - (q + 1) < (nums l).length - q from (by omega)) rfl ⟨rfl, rfl, rfl, rfl, trivial⟩ ⟨rfl, trivial⟩
 try simp only [cs, ne_eq] at hc6
 refine W_exit <| tx <| tx <| bx <| tn ?_
 obtain rfl : q = (nums l).length := (by omega)
 refine freeze 5 0 (refL l (nums l).length).length rfl rfl (Nat.le_refl _) ?_
 refine r1 <| sT 38 9 1 rfl ?_
 refine c1 (byteList_any (refL l (nums l).length) (refL_bits l) (by omega)) [] [17] 39 17 2 rfl rfl rfl rfl rfl rfl rfl rfl Tryd.func41 rfl rfl rfl rfl trivial rfl rfl ?_
 refine sT 2 25 3 rfl <| sT 3 33 4 rfl <| e1 41 rfl <| keep [2, 3] rfl <| W_ret ?_
 exact out2 2 3 (.sl 0 0 (encB l).length) (SV.i 0) (π := [17]) (hout := [some (.rows 5 1 (encB l).length (u8F (encB l)))]) Tryd.results15 rfl rfl (by unfold encB; rw [← refL_all]; rfl) rfl rfl rfl ⟨(by unfold encB; rw [← refL_all]; rfl), trivial⟩ ⟨rfl, rfl⟩
end Go.Proofs.YtpdojmebloekgaaDoor.Nice.Co
namespace Go.Proofs.YtpdojmebloekgaaDoor.Nice.Co
open Go
set_option linter.unusedVariables false
set_option linter.unusedSimpArgs false
set_option maxRecDepth 100000
set_option maxHeartbeats 4000000
structure Roll where
 c : Int
 lo : Int
 hi : Int
 s : Int
 deriving DecidableEq
def rollS (r : Roll) : SV := .agg [SV.i r.c, SV.i r.lo, SV.i r.hi, SV.i r.s]
def joined (a b : Roll) : Roll := if a.c = 0 then b else if b.c = 0 then a else ⟨a.c + b.c, if b.lo < a.lo then b.lo else a.lo, if a.hi < b.hi then b.hi else a.hi, a.s + b.s⟩
def withR (a : Roll) (v : Int) : Roll := joined a ⟨1, v, v, v⟩
def stepR (r : Roll) (n : Nat) (v : Int) : Roll := ⟨r.c + 1, if n = 0 ∨ v < r.lo then v else r.lo, if n = 0 ∨ r.hi < v then v else r.hi, r.s + v⟩
def foldTo (l : List Int) : Nat → Roll
 | 0 => ⟨0, 0, 0, 0⟩
 | n + 1 => stepR (foldTo l n) n (l.getD n 0)
def rollBlk (r : Roll) : Blk := .cells 33 4 [SV.i r.c, SV.i r.lo, SV.i r.hi, SV.i r.s]
theorem blk_eq {c lo hi s : Int} {r : Roll} (h1 : c = r.c) (h2 : lo = r.lo) (h3 : hi = r.hi) (h4 : s = r.s) : Blk.cells 33 4 [SV.i c, SV.i lo, SV.i hi, SV.i s] = rollBlk r := by
 rw [h1, h2, h3, h4]; rfl
theorem fold_c (l : List Int) : ∀ n, (foldTo l n).c = n
 | 0 => rfl
 | n + 1 => by show (foldTo l n).c + 1 = _; rw [fold_c l n]; omega
theorem fold_with (l : List Int) (n : Nat) : foldTo l (n + 1) = withR (foldTo l n) (l.getD n 0) := by
 by_cases h : n = 0
 · subst h
   simp [foldTo, stepR, withR, joined]
 · have hj : withR (foldTo l n) (l.getD n 0) = ⟨(foldTo l n).c + 1, if l.getD n 0 < (foldTo l n).lo then l.getD n 0 else (foldTo l n).lo, if (foldTo l n).hi < l.getD n 0 then l.getD n 0 else (foldTo l n).hi, (foldTo l n).s + l.getD n 0⟩ := by
     unfold withR joined
     rw [if_neg (by rw [fold_c]; omega), if_neg (by show ¬ (1 : Int) = 0; decide)]
   rw [hj]
   show stepR _ _ _ = _
   unfold stepR
   simp only [h, false_or]
def inV (x : Int) : Prop := -36028797018963968 ≤ x ∧ x < 36028797018963968
theorem fold_s {l : List Int} (h : ∀ j, j < l.length → inV (l.getD j 0)) : ∀ n, n ≤ l.length → -(n * 36028797018963968) ≤ (foldTo l n).s ∧ (foldTo l n).s ≤ n * 36028797018963968
 | 0, _ => by simp [foldTo]
 | n + 1, hn => by
   have := fold_s h n (by omega)
   have := h n (by omega)
   unfold inV at this
   show _ ≤ (foldTo l n).s + l.getD n 0 ∧ (foldTo l n).s + l.getD n 0 ≤ _
   omega
def vals (l : List Smp) : List Int := l.map (·.v)
theorem vals_len (l : List Smp) : (vals l).length = l.length := by simp [vals]
theorem vals_get {l : List Smp} {k : Nat} (h : k < l.length) : (vals l).getD k 0 = (l.getD k default).v := by simp [vals, List.getD, h]
theorem sf_parts {l : List Smp} (hz : sfault l = 0) : l.length ≤ 120 ∧ faultTo l l.length = 0 := by
 unfold sfault at hz
 by_cases h : 120 < l.length
 · rw [if_pos h] at hz; cases hz
 · rw [if_neg h] at hz; exact ⟨by omega, hz⟩
theorem vals_in {l : List Smp} (hz : sfault l = 0) : ∀ j, j < (vals l).length → inV ((vals l).getD j 0) := by
 intro j hj
 rw [vals_len] at hj
 rw [vals_get hj]
 exact (smp_at (sf_parts hz).2 hj).2.1
def ofR (l : List Smp) : Roll := if sfault l = 0 then foldTo (vals l) l.length else ⟨0, 0, 0, 0⟩
theorem joined_any (a b : Roll) (hc : inRange (a.c + b.c)) (hs : inRange (a.s + b.s)) : Spec Tryd.prog GC 54 [rollS a, rollS b] [] (fun r ho => r = rollS (joined a b) ∧ ho = []) := by
 refine start 36 0 Tryd.func54 rfl rfl rfl rfl ?_
 refine r1 <| sT 2 0 1 rfl <| sT 3 8 2 rfl <| sT 4 16 3 rfl <| e1 24 rfl <| keep [2, 3, 4] rfl <| W_seq <| W_block <| r1 <| sT 6 24 1 rfl <| sO 7 32 2 rfl <| sO 8 40 3 rfl <| sT 5 48 4 rfl <| e1 56 rfl <| keep [2, 3, 4, 5] rfl ?_
 refine q1 rfl (fun hc1 => ?_) (fun hc1 => ?_)
 try simp only [cs, ne_eq] at hc1
 refine r1 <| sO 9 56 1 rfl <| s0O 64 2 rfl rfl rfl rfl rfl <| e1 72 rfl <| keep [4] rfl <| W_ret <| br <| tr ?_
 exact outN (rollS (joined a b)) (π := []) (hout := []) Tryd.results54 rfl (by trivial) (by unfold joined; rw [if_pos hc1]; rfl) rfl rfl trivial ⟨rfl, rfl⟩
 try simp only [cs, ne_eq] at hc1
 refine r1 <| sT 11 56 1 rfl <| sO 12 64 2 rfl <| sO 13 72 3 rfl <| sT 10 80 4 rfl <| e1 88 rfl <| keep [2, 3, 4, 10] rfl ?_
 refine q1 rfl (fun hc3 => ?_) (fun hc3 => ?_)
 try simp only [cs, ne_eq] at hc3
 refine r1 <| sO 14 88 1 rfl <| s0O 96 2 rfl rfl rfl rfl rfl <| e1 104 rfl <| keep [4] rfl <| W_ret <| br <| tr ?_
 exact outN (rollS (joined a b)) (π := []) (hout := []) Tryd.results54 rfl (by trivial) (by unfold joined; rw [if_neg hc1, if_pos hc3]; rfl) rfl rfl trivial ⟨rfl, rfl⟩
 try simp only [cs, ne_eq] at hc3
 refine W_skip <| bn <| tn <| r1 <| sT 15 88 1 rfl <| sO 16 96 2 rfl <| sT 17 104 3 rfl <| sO 18 112 4 rfl ?_
 refine sA 19 120 5 rfl rfl rfl rfl rfl rfl rfl rfl rfl hc ?_
 refine sT 20 128 6 rfl <| sO 21 136 7 rfl <| sT 22 144 8 rfl <| sO 23 152 9 rfl <| sT 24 160 10 rfl <| sT 25 168 11 rfl <| sO 26 176 12 rfl <| sT 27 184 13 rfl <| sO 28 192 14 rfl <| sT 29 200 15 rfl <| sT 30 208 16 rfl <| sO 31 216 17 rfl <| sT 32 224 18 rfl <| sO 33 232 19 rfl ?_
 refine sA 34 240 20 rfl rfl rfl rfl rfl rfl rfl rfl rfl hs ?_
 refine sT 35 248 21 rfl <| s0O 256 22 rfl rfl rfl rfl rfl <| e1 264 rfl <| keep [4] rfl <| W_ret ?_
 exact outN (rollS (joined a b)) (π := []) (hout := []) Tryd.results54 rfl (by trivial) (by unfold joined; rw [if_neg hc1, if_neg hc3]; rfl) rfl rfl trivial ⟨rfl, rfl⟩
theorem with_any (a : Roll) (v : Int) (hc : inRange (a.c + 1)) (hs : inRange (a.s + v)) : Spec Tryd.prog GC 79 [rollS a, SV.i v] [] (fun r ho => r = rollS (withR a v) ∧ ho = []) := by
 refine start 11 0 Tryd.func79 rfl rfl rfl rfl ?_
 refine r1 <| sT 2 0 1 rfl <| sT 4 8 2 rfl <| e1 16 rfl <| keep [1, 2, 4] rfl <| r1 <| sO 5 16 1 rfl <| sT 6 24 2 rfl <| sT 7 32 3 rfl <| sT 8 40 4 rfl <| sT 9 48 5 rfl ?_
 refine c1 (joined_any a ⟨1, v, v, v⟩ hc hs) [] [] 10 56 6 rfl rfl rfl rfl rfl rfl rfl rfl Tryd.func54 rfl rfl rfl rfl trivial rfl rfl ?_
 refine s0O 64 7 rfl rfl rfl rfl rfl <| e1 72 rfl <| keep [4] rfl <| W_ret ?_
 exact outN (rollS (withR a v)) (π := []) (hout := []) Tryd.results79 rfl (by trivial) rfl rfl rfl trivial ⟨rfl, rfl⟩
theorem of_any (l : List Smp) (hl : l.length ≤ 120) (hv : ∀ j, j < (vals l).length → inV ((vals l).getD j 0)) : Spec Tryd.prog GC 49 [smpV l] [] (fun r ho => r = rollS (foldTo (vals l) l.length) ∧ ho = []) := by
 refine start 17 0 Tryd.func49 rfl rfl rfl rfl ?_
 refine r1 <| sT 2 0 1 rfl <| e1 8 rfl <| keep [0, 2] rfl <| W_seq <| r1 <| sT 5 8 1 rfl <| sO 6 16 2 rfl <| sT 7 24 3 rfl <| e1 32 rfl <| keep [2, 5, 6, 7] rfl <| W_block ?_
 refine loop (α := Nat) 1 (fun n => [(2, .ptr 0 0 0), (5, smpV l), (6, SV.i l.length), (7, SV.i (n))]) (fun n => [some (rollBlk (foldTo (vals l) (n)))]) (fun n => (n) ≤ l.length) (fun n => l.length - (n)) (((0) : Nat)) [0] (fun _ => rfl) (show (0) ≤ l.length from (Nat.zero_le _)) rfl ⟨rfl, rfl, rfl, rfl, trivial⟩ ⟨rfl, trivial⟩ (fun n hx => ?_)
 show W _ _ _ ⟨tOf [(2, .ptr 0 0 0), (5, smpV l), (6, SV.i l.length), (7, SV.i n)], hOf [some (rollBlk (foldTo (vals l) n))], 1⟩
 have hx : n ≤ l.length := hx
 have hs := fold_s hv n (by rw [vals_len]; exact hx)
 have hcc := fold_c (vals l) n
 refine r1 <| sO 8 1 1 rfl <| e1 9 rfl <| keep [2, 5, 6, 7, 8] rfl <| W_seq ?_
 refine q1 rfl (fun hc2 => ?_) (fun hc2 => ?_)
 try simp only [cs, ne_eq] at hc2
 have hvn := hv n (by rw [vals_len]; omega)
 rw [vals_get (by omega)] at hvn
 unfold inV at hvn
 refine W_skip <| tn <| W_seq <| W_block <| r1 <| sO 9 9 1 rfl <| sO 10 17 2 rfl ?_
 refine val 10 (smpS (l.getD n default)) rfl (by first | rfl | (simp only [Nat.zero_add, Int.toNat_natCast]; rfl)) ?_
 refine sT 4 25 3 rfl <| s0O 33 4 rfl rfl rfl rfl rfl <| e1 41 rfl <| keep [2, 4, 5, 6, 7] rfl ?_
 refine r0 ?_
 refine sO 11 41 1 rfl <| sT 12 49 2 rfl <| sO 13 57 3 rfl ?_
 refine c1 (with_any (foldTo (vals l) n) (l.getD n default).v ⟨by omega, by omega⟩ ⟨by omega, by omega⟩) [] [] 14 65 4 rfl rfl rfl rfl rfl rfl rfl rfl Tryd.func79 rfl rfl rfl rfl trivial rfl rfl ?_
 refine s0O 73 5 rfl rfl rfl rfl rfl <| e1 81 rfl <| bn <| tn ?_
 refine chval 0 (rollBlk (foldTo (vals l) (n + 1))) rfl (by rw [fold_with, vals_get (by omega)]; rfl) ?_
 refine r0 ?_
 refine sAO 15 81 1 rfl <| sT 7 89 2 rfl <| e1 97 rfl <| tn ?_
 exact again ((n + 1 : Nat)) [0] (show (n + 1) ≤ l.length from (by omega)) (show l.length - (n + 1) < l.length - n from (by omega)) rfl ⟨rfl, rfl, rfl, rfl, trivial⟩ ⟨rfl, trivial⟩
 try simp only [cs, ne_eq] at hc2
 refine W_exit <| tx <| tx <| bx <| tn ?_
 obtain rfl : n = l.length := (by omega)
 refine r1 <| sO 16 9 1 rfl <| s0O 17 2 rfl rfl rfl rfl rfl <| e1 25 rfl <| keep [2] rfl <| W_ret ?_
 exact outN (rollS (foldTo (vals l) l.length)) (π := []) (hout := []) Tryd.results49 rfl (by trivial) rfl rfl rfl trivial ⟨rfl, rfl⟩
theorem rollOf_ok (l : List Smp) (hin : SmpIn l) (hz : sfault l = 0) : Spec Tryd.prog GC 20 [smpV l] [] (fun r ho => r = SV.tup [rollS (ofR l), SV.i (sfault l)] ∧ ho = []) := by
 have hp := sf_parts hz
 have hv := vals_in hz
 refine start 17 0 Tryd.func20 rfl rfl rfl rfl ?_
 refine r1 <| sT 2 0 1 rfl <| sT 3 8 2 rfl <| e1 16 rfl <| keep [0, 2] rfl <| W_seq <| r1 <| sT 7 16 1 rfl ?_
 refine c1 (encode_ok l hin hz) [] [24] 8 24 2 rfl rfl rfl rfl rfl rfl rfl rfl Tryd.func14 rfl rfl rfl rfl trivial rfl rfl ?_
 refine sT 6 32 3 rfl <| sT 9 40 4 rfl <| sT 10 48 5 rfl <| sT 4 56 6 rfl <| sT 5 64 7 rfl <| e1 72 rfl <| keep [0, 2, 5] rfl <| r1 <| sT 11 72 1 rfl <| sO 12 80 2 rfl <| e1 88 rfl <| keep [0, 2, 5, 12] rfl ?_
 refine q1 rfl (fun hc2 => ?_) (fun hc2 => ?_)
 exact absurd hc2 (by decide)
 try simp only [cs, ne_eq] at hc2
 refine W_skip <| tn <| r1 <| sT 15 88 1 rfl ?_
 refine c1 (of_any l hp.1 hv) [] [] 16 96 2 rfl rfl rfl rfl rfl rfl rfl rfl Tryd.func49 rfl rfl rfl rfl trivial rfl rfl ?_
 refine s0O 104 3 rfl rfl rfl rfl rfl <| sT 3 112 4 rfl <| e1 120 rfl <| keep [2, 3] rfl <| W_ret ?_
 exact outN (SV.tup [rollS (ofR l), SV.i (sfault l)]) (π := []) (hout := []) Tryd.results20 rfl (by trivial) (by unfold ofR; rw [if_pos hz, hz]; rfl) rfl rfl trivial ⟨rfl, rfl⟩
theorem rollOf_bad (l : List Smp) (hin : SmpIn l) (hz : sfault l ≠ 0) : Spec Tryd.prog GC 20 [smpV l] [] (fun r ho => r = SV.tup [rollS (ofR l), SV.i (sfault l)] ∧ ho = []) := by
 refine start 17 0 Tryd.func20 rfl rfl rfl rfl ?_
 refine r1 <| sT 2 0 1 rfl <| sT 3 8 2 rfl <| e1 16 rfl <| keep [0, 2] rfl <| W_seq <| r1 <| sT 7 16 1 rfl ?_
 refine c1 (encode_bad l hin hz) [] [] 8 24 2 rfl rfl rfl rfl rfl rfl rfl rfl Tryd.func14 rfl rfl rfl rfl trivial rfl rfl ?_
 refine sT 6 32 3 rfl <| sT 9 40 4 rfl <| sT 10 48 5 rfl <| sT 4 56 6 rfl <| sT 5 64 7 rfl <| e1 72 rfl <| keep [0, 2, 5] rfl <| r1 <| sT 11 72 1 rfl <| sO 12 80 2 rfl <| e1 88 rfl <| keep [0, 2, 5, 12] rfl ?_
 refine q1 rfl (fun hc2 => ?_) (fun hc2 => ?_)
 try simp only [cs, ne_eq] at hc2
 refine r1 <| sT 13 88 1 rfl <| sT 14 96 2 rfl <| s0O 104 3 rfl rfl rfl rfl rfl <| sT 3 112 4 rfl <| e1 120 rfl <| keep [2, 3] rfl <| W_ret <| tr ?_
 exact outN (SV.tup [rollS (ofR l), SV.i (sfault l)]) (π := []) (hout := []) Tryd.results20 rfl (by trivial) (by unfold ofR; rw [if_neg hz]; rfl) rfl rfl trivial ⟨rfl, rfl⟩
 exact absurd hc2 (by simpa using hz)
theorem rollOf_any (l : List Smp) (hin : SmpIn l) : Spec Tryd.prog GC 20 [smpV l] [] (fun r ho => r = SV.tup [rollS (ofR l), SV.i (sfault l)] ∧ ho = []) := by
 by_cases hz : sfault l = 0
 · exact rollOf_ok l hin hz
 · exact rollOf_bad l hin hz
theorem refOf_any (l : List Int) (hl : l.length ≤ 1000000) (hs : ∀ n, n ≤ l.length → inRange (foldTo l n).s) : Spec Tryd.prog GC 52 [intV l] [] (fun r ho => r = rollS (foldTo l l.length) ∧ ho = []) := by
 refine start 44 0 Tryd.func52 rfl rfl rfl rfl ?_
 refine r1 <| sT 2 0 1 rfl <| e1 8 rfl <| keep [0, 2] rfl <| r1 <| sT 3 8 1 rfl <| e1 16 rfl <| keep [0, 2, 3] rfl <| W_seq <| r1 <| sT 6 16 1 rfl <| sO 7 24 2 rfl <| sT 8 32 3 rfl <| e1 40 rfl <| keep [2, 3, 6, 7, 8] rfl <| W_block ?_
 refine loop (α := Nat) 2 (fun n => [(2, .ptr 0 0 0), (3, .ptr 1 0 0), (6, intV l), (7, SV.i l.length), (8, SV.i n)]) (fun n => [some (rollBlk ⟨0, 0, 0, 0⟩), some (rollBlk (foldTo l n))]) (fun n => n ≤ l.length) (fun n => l.length - n) (0) [0, 8] (fun _ => rfl) (Nat.zero_le _) rfl ⟨rfl, rfl, rfl, rfl, rfl, trivial⟩ ⟨rfl, rfl, trivial⟩ (fun n hx => ?_)
 refine r1 <| sO 9 2 1 rfl <| e1 10 rfl <| keep [2, 3, 6, 7, 8, 9] rfl <| W_seq ?_
 refine q1 rfl (fun hc3 => ?_) (fun hc3 => ?_)
 · skip
   try simp only [cs, ne_eq] at hc3
   refine W_skip <| tn <| W_seq <| W_block <| r1 <| sT 10 10 1 rfl <| sO 11 18 2 rfl <| sO 12 26 3 rfl <| sT 4 34 4 rfl <| sT 5 42 5 rfl <| e1 50 rfl <| keep [2, 3, 4, 5, 6, 7, 8] rfl <| W_seq <| r1 <| sT 13 50 1 rfl <| sO 14 58 2 rfl ?_
   refine sT 15 66 3 rfl ?_
   refine ask 15 rfl (fun hg5_15 => ?_) (fun hg5_15 => ?_)
   · skip
     try simp only [cs, ne_eq] at hg5_15
     refine gF 2 false 15 16 4 rfl rfl <| gF 2 false 15 17 5 rfl rfl <| gF 2 false 15 18 6 rfl rfl <| gF 2 false 15 19 7 rfl rfl <| sT 20 106 8 rfl <| e1 114 rfl <| keep [2, 3, 4, 5, 6, 7, 8, 20] rfl ?_
     refine q1 rfl (fun hc5 => ?_) (fun hc5 => ?_)
     · skip
       try simp only [cs, ne_eq] at hc5
       refine r0 ?_
       refine sT 21 114 1 rfl <| sT 22 122 2 rfl <| s0O 130 3 rfl rfl rfl rfl rfl <| e1 138 rfl <| tn <| W_seq <| r1 <| sT 23 138 1 rfl <| sO 24 146 2 rfl <| sT 25 154 3 rfl ?_
       refine ask 25 rfl (fun hg7_25 => ?_) (fun hg7_25 => ?_)
       · skip
         try simp only [cs, ne_eq] at hg7_25
         refine gF 2 false 25 26 4 rfl rfl <| gF 2 false 25 27 5 rfl rfl <| gF 2 false 25 28 6 rfl rfl <| gF 2 false 25 29 7 rfl rfl <| sT 30 194 8 rfl <| e1 202 rfl <| keep [2, 3, 5, 6, 7, 8, 30] rfl ?_
         refine q1 rfl (fun hc7 => ?_) (fun hc7 => ?_)
         · skip
           try simp only [cs, ne_eq] at hc7
           refine r0 ?_
           refine sT 31 202 1 rfl <| sT 32 210 2 rfl <| s0O 218 3 rfl rfl rfl rfl rfl <| e1 226 rfl <| tn <| r1 <| sT 33 226 1 rfl <| sO 34 234 2 rfl <| sT 35 242 3 rfl ?_
           refine sA 36 250 4 rfl rfl rfl rfl rfl rfl rfl rfl rfl (by have := hs (n + 1) (by omega); exact this) ?_
           refine sT 37 258 5 rfl <| s0O 266 6 rfl rfl rfl rfl rfl <| e1 274 rfl <| keep [2, 3, 6, 7, 8] rfl ?_
           refine r0 ?_
           refine sT 38 274 1 rfl <| sO 39 282 2 rfl ?_
           refine sA 40 290 3 rfl rfl rfl rfl rfl rfl rfl rfl rfl (by have := fold_c l n; unfold inRange; omega) ?_
           refine sT 41 298 4 rfl <| s0O 306 5 rfl rfl rfl rfl rfl <| e1 314 rfl <| bn <| tn ?_
           refine chval 1 (rollBlk (foldTo l (n + 1))) rfl (blk_eq rfl (by simp only [Int.toNat_natCast] at *; simp only [foldTo, stepR]; split <;> omega) (by simp only [Int.toNat_natCast] at *; simp only [foldTo, stepR]; split <;> omega) rfl) ?_
           refine r0 ?_
           refine sAO 42 314 1 rfl <| sT 8 322 2 rfl <| e1 330 rfl <| tn ?_
           exact again (n + 1) [0, 1] (by omega) (by omega) rfl ⟨rfl, rfl, rfl, rfl, rfl, trivial⟩ ⟨rfl, rfl, trivial⟩
         exact absurd hc7 (by decide)
       try simp only [cs, ne_eq] at hg7_25
       refine gT 2 false 25 4 rfl rfl <| sT 26 162 4 rfl <| gT 2 false 25 5 rfl rfl <| sT 27 170 5 rfl <| gT 2 false 25 6 rfl rfl <| sO 28 178 6 rfl <| gT 2 false 25 7 rfl rfl <| sO 29 186 7 rfl <| sT 30 194 8 rfl <| e1 202 rfl <| keep [2, 3, 5, 6, 7, 8, 30] rfl ?_
       refine q1 rfl (fun hc7 => ?_) (fun hc7 => ?_)
       · skip
         try simp only [cs, ne_eq] at hc7
         refine r0 ?_
         refine sT 31 202 1 rfl <| sT 32 210 2 rfl <| s0O 218 3 rfl rfl rfl rfl rfl <| e1 226 rfl <| tn <| r1 <| sT 33 226 1 rfl <| sO 34 234 2 rfl <| sT 35 242 3 rfl ?_
         refine sA 36 250 4 rfl rfl rfl rfl rfl rfl rfl rfl rfl (by have := hs (n + 1) (by omega); exact this) ?_
         refine sT 37 258 5 rfl <| s0O 266 6 rfl rfl rfl rfl rfl <| e1 274 rfl <| keep [2, 3, 6, 7, 8] rfl ?_
         refine r0 ?_
         refine sT 38 274 1 rfl <| sO 39 282 2 rfl ?_
         refine sA 40 290 3 rfl rfl rfl rfl rfl rfl rfl rfl rfl (by have := fold_c l n; unfold inRange; omega) ?_
         refine sT 41 298 4 rfl <| s0O 306 5 rfl rfl rfl rfl rfl <| e1 314 rfl <| bn <| tn ?_
         refine chval 1 (rollBlk (foldTo l (n + 1))) rfl (blk_eq rfl (by simp only [Int.toNat_natCast] at *; simp only [foldTo, stepR]; split <;> omega) (by simp only [Int.toNat_natCast] at *; simp only [foldTo, stepR]; split <;> omega) rfl) ?_
         refine r0 ?_
         refine sAO 42 314 1 rfl <| sT 8 322 2 rfl <| e1 330 rfl <| tn ?_
         exact again (n + 1) [0, 1] (by omega) (by omega) rfl ⟨rfl, rfl, rfl, rfl, rfl, trivial⟩ ⟨rfl, rfl, trivial⟩
       try simp only [cs, ne_eq] at hc7
       refine W_skip <| tn <| r1 <| sT 33 202 1 rfl <| sO 34 210 2 rfl <| sT 35 218 3 rfl ?_
       refine sA 36 226 4 rfl rfl rfl rfl rfl rfl rfl rfl rfl (by have := hs (n + 1) (by omega); exact this) ?_
       refine sT 37 234 5 rfl <| s0O 242 6 rfl rfl rfl rfl rfl <| e1 250 rfl <| keep [2, 3, 6, 7, 8] rfl ?_
       refine r0 ?_
       refine sT 38 250 1 rfl <| sO 39 258 2 rfl ?_
       refine sA 40 266 3 rfl rfl rfl rfl rfl rfl rfl rfl rfl (by have := fold_c l n; unfold inRange; omega) ?_
       refine sT 41 274 4 rfl <| s0O 282 5 rfl rfl rfl rfl rfl <| e1 290 rfl <| bn <| tn ?_
       refine chval 1 (rollBlk (foldTo l (n + 1))) rfl (blk_eq rfl (by simp only [Int.toNat_natCast] at *; simp only [foldTo, stepR]; split <;> omega) (by simp only [Int.toNat_natCast] at *; simp only [foldTo, stepR]; split <;> omega) rfl) ?_
       refine r0 ?_
       refine sAO 42 290 1 rfl <| sT 8 298 2 rfl <| e1 306 rfl <| tn ?_
       exact again (n + 1) [0, 1] (by omega) (by omega) rfl ⟨rfl, rfl, rfl, rfl, rfl, trivial⟩ ⟨rfl, rfl, trivial⟩
     exact absurd hc5 (by decide)
   try simp only [cs, ne_eq] at hg5_15
   refine gT 2 false 15 4 rfl rfl <| sT 16 74 4 rfl <| gT 2 false 15 5 rfl rfl <| sT 17 82 5 rfl <| gT 2 false 15 6 rfl rfl <| sO 18 90 6 rfl <| gT 2 false 15 7 rfl rfl <| sO 19 98 7 rfl <| sT 20 106 8 rfl <| e1 114 rfl <| keep [2, 3, 4, 5, 6, 7, 8, 20] rfl ?_
   refine q1 rfl (fun hc5 => ?_) (fun hc5 => ?_)
   · skip
     try simp only [cs, ne_eq] at hc5
     refine r0 ?_
     refine sT 21 114 1 rfl <| sT 22 122 2 rfl <| s0O 130 3 rfl rfl rfl rfl rfl <| e1 138 rfl <| tn <| W_seq <| r1 <| sT 23 138 1 rfl <| sO 24 146 2 rfl <| sT 25 154 3 rfl ?_
     refine ask 25 rfl (fun hg7_25 => ?_) (fun hg7_25 => ?_)
     · skip
       try simp only [cs, ne_eq] at hg7_25
       refine gF 2 false 25 26 4 rfl rfl <| gF 2 false 25 27 5 rfl rfl <| gF 2 false 25 28 6 rfl rfl <| gF 2 false 25 29 7 rfl rfl <| sT 30 194 8 rfl <| e1 202 rfl <| keep [2, 3, 5, 6, 7, 8, 30] rfl ?_
       refine q1 rfl (fun hc7 => ?_) (fun hc7 => ?_)
       · skip
         try simp only [cs, ne_eq] at hc7
         refine r0 ?_
         refine sT 31 202 1 rfl <| sT 32 210 2 rfl <| s0O 218 3 rfl rfl rfl rfl rfl <| e1 226 rfl <| tn <| r1 <| sT 33 226 1 rfl <| sO 34 234 2 rfl <| sT 35 242 3 rfl ?_
         refine sA 36 250 4 rfl rfl rfl rfl rfl rfl rfl rfl rfl (by have := hs (n + 1) (by omega); exact this) ?_
         refine sT 37 258 5 rfl <| s0O 266 6 rfl rfl rfl rfl rfl <| e1 274 rfl <| keep [2, 3, 6, 7, 8] rfl ?_
         refine r0 ?_
         refine sT 38 274 1 rfl <| sO 39 282 2 rfl ?_
         refine sA 40 290 3 rfl rfl rfl rfl rfl rfl rfl rfl rfl (by have := fold_c l n; unfold inRange; omega) ?_
         refine sT 41 298 4 rfl <| s0O 306 5 rfl rfl rfl rfl rfl <| e1 314 rfl <| bn <| tn ?_
         refine chval 1 (rollBlk (foldTo l (n + 1))) rfl (blk_eq rfl (by simp only [Int.toNat_natCast] at *; simp only [foldTo, stepR]; split <;> omega) (by simp only [Int.toNat_natCast] at *; simp only [foldTo, stepR]; split <;> omega) rfl) ?_
         refine r0 ?_
         refine sAO 42 314 1 rfl <| sT 8 322 2 rfl <| e1 330 rfl <| tn ?_
         exact again (n + 1) [0, 1] (by omega) (by omega) rfl ⟨rfl, rfl, rfl, rfl, rfl, trivial⟩ ⟨rfl, rfl, trivial⟩
       exact absurd hc7 (by decide)
     try simp only [cs, ne_eq] at hg7_25
     refine gT 2 false 25 4 rfl rfl <| sT 26 162 4 rfl <| gT 2 false 25 5 rfl rfl <| sT 27 170 5 rfl <| gT 2 false 25 6 rfl rfl <| sO 28 178 6 rfl <| gT 2 false 25 7 rfl rfl <| sO 29 186 7 rfl <| sT 30 194 8 rfl <| e1 202 rfl <| keep [2, 3, 5, 6, 7, 8, 30] rfl ?_
     refine q1 rfl (fun hc7 => ?_) (fun hc7 => ?_)
     · skip
       try simp only [cs, ne_eq] at hc7
       refine r0 ?_
       refine sT 31 202 1 rfl <| sT 32 210 2 rfl <| s0O 218 3 rfl rfl rfl rfl rfl <| e1 226 rfl <| tn <| r1 <| sT 33 226 1 rfl <| sO 34 234 2 rfl <| sT 35 242 3 rfl ?_
       refine sA 36 250 4 rfl rfl rfl rfl rfl rfl rfl rfl rfl (by have := hs (n + 1) (by omega); exact this) ?_
       refine sT 37 258 5 rfl <| s0O 266 6 rfl rfl rfl rfl rfl <| e1 274 rfl <| keep [2, 3, 6, 7, 8] rfl ?_
       refine r0 ?_
       refine sT 38 274 1 rfl <| sO 39 282 2 rfl ?_
       refine sA 40 290 3 rfl rfl rfl rfl rfl rfl rfl rfl rfl (by have := fold_c l n; unfold inRange; omega) ?_
       refine sT 41 298 4 rfl <| s0O 306 5 rfl rfl rfl rfl rfl <| e1 314 rfl <| bn <| tn ?_
       refine chval 1 (rollBlk (foldTo l (n + 1))) rfl (blk_eq rfl (by simp only [Int.toNat_natCast] at *; simp only [foldTo, stepR]; split <;> omega) (by simp only [Int.toNat_natCast] at *; simp only [foldTo, stepR]; split <;> omega) rfl) ?_
       refine r0 ?_
       refine sAO 42 314 1 rfl <| sT 8 322 2 rfl <| e1 330 rfl <| tn ?_
       exact again (n + 1) [0, 1] (by omega) (by omega) rfl ⟨rfl, rfl, rfl, rfl, rfl, trivial⟩ ⟨rfl, rfl, trivial⟩
     try simp only [cs, ne_eq] at hc7
     refine W_skip <| tn <| r1 <| sT 33 202 1 rfl <| sO 34 210 2 rfl <| sT 35 218 3 rfl ?_
     refine sA 36 226 4 rfl rfl rfl rfl rfl rfl rfl rfl rfl (by have := hs (n + 1) (by omega); exact this) ?_
     refine sT 37 234 5 rfl <| s0O 242 6 rfl rfl rfl rfl rfl <| e1 250 rfl <| keep [2, 3, 6, 7, 8] rfl ?_
     refine r0 ?_
     refine sT 38 250 1 rfl <| sO 39 258 2 rfl ?_
     refine sA 40 266 3 rfl rfl rfl rfl rfl rfl rfl rfl rfl (by have := fold_c l n; unfold inRange; omega) ?_
     refine sT 41 274 4 rfl <| s0O 282 5 rfl rfl rfl rfl rfl <| e1 290 rfl <| bn <| tn ?_
     refine chval 1 (rollBlk (foldTo l (n + 1))) rfl (blk_eq rfl (by simp only [Int.toNat_natCast] at *; simp only [foldTo, stepR]; split <;> omega) (by simp only [Int.toNat_natCast] at *; simp only [foldTo, stepR]; split <;> omega) rfl) ?_
     refine r0 ?_
     refine sAO 42 290 1 rfl <| sT 8 298 2 rfl <| e1 306 rfl <| tn ?_
     exact again (n + 1) [0, 1] (by omega) (by omega) rfl ⟨rfl, rfl, rfl, rfl, rfl, trivial⟩ ⟨rfl, rfl, trivial⟩
   try simp only [cs, ne_eq] at hc5
   refine W_skip <| tn <| W_seq <| r1 <| sT 23 114 1 rfl <| sO 24 122 2 rfl <| sT 25 130 3 rfl ?_
   refine ask 25 rfl (fun hg7_25 => ?_) (fun hg7_25 => ?_)
   · skip
     try simp only [cs, ne_eq] at hg7_25
     refine gF 2 false 25 26 4 rfl rfl <| gF 2 false 25 27 5 rfl rfl <| gF 2 false 25 28 6 rfl rfl <| gF 2 false 25 29 7 rfl rfl <| sT 30 170 8 rfl <| e1 178 rfl <| keep [2, 3, 5, 6, 7, 8, 30] rfl ?_
     refine q1 rfl (fun hc7 => ?_) (fun hc7 => ?_)
     · skip
       try simp only [cs, ne_eq] at hc7
       refine r0 ?_
       refine sT 31 178 1 rfl <| sT 32 186 2 rfl <| s0O 194 3 rfl rfl rfl rfl rfl <| e1 202 rfl <| tn <| r1 <| sT 33 202 1 rfl <| sO 34 210 2 rfl <| sT 35 218 3 rfl ?_
       refine sA 36 226 4 rfl rfl rfl rfl rfl rfl rfl rfl rfl (by have := hs (n + 1) (by omega); exact this) ?_
       refine sT 37 234 5 rfl <| s0O 242 6 rfl rfl rfl rfl rfl <| e1 250 rfl <| keep [2, 3, 6, 7, 8] rfl ?_
       refine r0 ?_
       refine sT 38 250 1 rfl <| sO 39 258 2 rfl ?_
       refine sA 40 266 3 rfl rfl rfl rfl rfl rfl rfl rfl rfl (by have := fold_c l n; unfold inRange; omega) ?_
       refine sT 41 274 4 rfl <| s0O 282 5 rfl rfl rfl rfl rfl <| e1 290 rfl <| bn <| tn ?_
       refine chval 1 (rollBlk (foldTo l (n + 1))) rfl (blk_eq rfl (by simp only [Int.toNat_natCast] at *; simp only [foldTo, stepR]; split <;> omega) (by simp only [Int.toNat_natCast] at *; simp only [foldTo, stepR]; split <;> omega) rfl) ?_
       refine r0 ?_
       refine sAO 42 290 1 rfl <| sT 8 298 2 rfl <| e1 306 rfl <| tn ?_
       exact again (n + 1) [0, 1] (by omega) (by omega) rfl ⟨rfl, rfl, rfl, rfl, rfl, trivial⟩ ⟨rfl, rfl, trivial⟩
     exact absurd hc7 (by decide)
   try simp only [cs, ne_eq] at hg7_25
   refine gT 2 false 25 4 rfl rfl <| sT 26 138 4 rfl <| gT 2 false 25 5 rfl rfl <| sT 27 146 5 rfl <| gT 2 false 25 6 rfl rfl <| sO 28 154 6 rfl <| gT 2 false 25 7 rfl rfl <| sO 29 162 7 rfl <| sT 30 170 8 rfl <| e1 178 rfl <| keep [2, 3, 5, 6, 7, 8, 30] rfl ?_
   refine q1 rfl (fun hc7 => ?_) (fun hc7 => ?_)
   · skip
     try simp only [cs, ne_eq] at hc7
     refine r0 ?_
     refine sT 31 178 1 rfl <| sT 32 186 2 rfl <| s0O 194 3 rfl rfl rfl rfl rfl <| e1 202 rfl <| tn <| r1 <| sT 33 202 1 rfl <| sO 34 210 2 rfl <| sT 35 218 3 rfl ?_
     refine sA 36 226 4 rfl rfl rfl rfl rfl rfl rfl rfl rfl (by have := hs (n + 1) (by omega); exact this) ?_
     refine sT 37 234 5 rfl <| s0O 242 6 rfl rfl rfl rfl rfl <| e1 250 rfl <| keep [2, 3, 6, 7, 8] rfl ?_
     refine r0 ?_
     refine sT 38 250 1 rfl <| sO 39 258 2 rfl ?_
     refine sA 40 266 3 rfl rfl rfl rfl rfl rfl rfl rfl rfl (by have := fold_c l n; unfold inRange; omega) ?_
     refine sT 41 274 4 rfl <| s0O 282 5 rfl rfl rfl rfl rfl <| e1 290 rfl <| bn <| tn ?_
     refine chval 1 (rollBlk (foldTo l (n + 1))) rfl (blk_eq rfl (by simp only [Int.toNat_natCast] at *; simp only [foldTo, stepR]; split <;> omega) (by simp only [Int.toNat_natCast] at *; simp only [foldTo, stepR]; split <;> omega) rfl) ?_
     refine r0 ?_
     refine sAO 42 290 1 rfl <| sT 8 298 2 rfl <| e1 306 rfl <| tn ?_
     exact again (n + 1) [0, 1] (by omega) (by omega) rfl ⟨rfl, rfl, rfl, rfl, rfl, trivial⟩ ⟨rfl, rfl, trivial⟩
   try simp only [cs, ne_eq] at hc7
   refine W_skip <| tn <| r1 <| sT 33 178 1 rfl <| sO 34 186 2 rfl <| sT 35 194 3 rfl ?_
   refine sA 36 202 4 rfl rfl rfl rfl rfl rfl rfl rfl rfl (by have := hs (n + 1) (by omega); exact this) ?_
   refine sT 37 210 5 rfl <| s0O 218 6 rfl rfl rfl rfl rfl <| e1 226 rfl <| keep [2, 3, 6, 7, 8] rfl ?_
   refine r0 ?_
   refine sT 38 226 1 rfl <| sO 39 234 2 rfl ?_
   refine sA 40 242 3 rfl rfl rfl rfl rfl rfl rfl rfl rfl (by have := fold_c l n; unfold inRange; omega) ?_
   refine sT 41 250 4 rfl <| s0O 258 5 rfl rfl rfl rfl rfl <| e1 266 rfl <| bn <| tn ?_
   refine chval 1 (rollBlk (foldTo l (n + 1))) rfl (blk_eq rfl (by simp only [Int.toNat_natCast] at *; simp only [foldTo, stepR]; split <;> omega) (by simp only [Int.toNat_natCast] at *; simp only [foldTo, stepR]; split <;> omega) rfl) ?_
   refine r0 ?_
   refine sAO 42 266 1 rfl <| sT 8 274 2 rfl <| e1 282 rfl <| tn ?_
   exact again (n + 1) [0, 1] (by omega) (by omega) rfl ⟨rfl, rfl, rfl, rfl, rfl, trivial⟩ ⟨rfl, rfl, trivial⟩
 try simp only [cs, ne_eq] at hc3
 refine W_exit <| tx <| tx <| bx <| tn ?_
 obtain rfl : n = l.length := (by omega)
 refine r1 <| sO 43 10 1 rfl <| s0O 18 2 rfl rfl rfl rfl rfl <| e1 26 rfl <| keep [2] rfl <| W_ret ?_
 exact outN (rollS (foldTo l l.length)) (π := []) (hout := []) Tryd.results52 rfl (by trivial) rfl rfl rfl trivial ⟨rfl, rfl⟩
theorem refRollOf_ok (l : List Smp) (hin : SmpIn l) (hz : sfault l = 0) : Spec Tryd.prog GC 22 [smpV l] [] (fun r ho => r = SV.tup [rollS (ofR l), SV.i (sfault l)] ∧ ho = []) := by
 have hp := sf_parts hz
 have hv := vals_in hz
 have hvl := vals_len l
 refine start 28 0 Tryd.func22 rfl rfl rfl rfl ?_
 refine r1 <| sT 2 0 1 rfl <| sT 3 8 2 rfl <| e1 16 rfl <| keep [0, 2] rfl <| W_seq <| r1 <| sT 8 16 1 rfl ?_
 refine c1 (sfault_any l hin) [] [] 9 24 2 rfl rfl rfl rfl rfl rfl rfl rfl Tryd.func36 rfl rfl rfl rfl trivial rfl rfl ?_
 refine sT 4 32 3 rfl <| e1 40 rfl <| keep [0, 2, 4] rfl <| r1 <| sT 10 40 1 rfl <| sO 11 48 2 rfl <| e1 56 rfl <| keep [0, 2, 4, 11] rfl ?_
 refine q1 rfl (fun hc2 => ?_) (fun hc2 => ?_)
 exact absurd hz (by simpa using hc2)
 try simp only [cs, ne_eq] at hc2
 refine W_skip <| tn <| r1 <| sT 5 56 1 rfl <| e1 64 rfl <| keep [0, 2, 5] rfl <| W_seq <| r1 <| sT 14 64 1 rfl <| sO 15 72 2 rfl <| sT 16 80 3 rfl <| e1 88 rfl <| keep [2, 5, 14, 15, 16] rfl <| W_block ?_
 refine ghostly 5 3 1 (intF []) rfl ?_
 refine loop (α := Nat) 2 (fun n => [(2, .ptr 0 0 0), (5, .sl 1 0 ((vals l).take (n)).length), (14, smpV l), (15, SV.i l.length), (16, SV.i (n))]) (fun n => [some (rollBlk ⟨0, 0, 0, 0⟩), some (.rows 3 1 ((vals l).take (n)).length (intF ((vals l).take (n))))]) (fun n => (n) ≤ l.length) (fun n => l.length - (n)) (((0) : Nat)) [0, 88] (fun _ => rfl) (show (0) ≤ l.length from (Nat.zero_le _)) rfl ⟨rfl, rfl, rfl, rfl, rfl, trivial⟩ ⟨rfl, rfl, trivial⟩ (fun n hx => ?_)
 show W _ _ _ ⟨tOf [(2, .ptr 0 0 0), (5, .sl 1 0 ((vals l).take n).length), (14, smpV l), (15, SV.i l.length), (16, SV.i n)], hOf [some (rollBlk ⟨0, 0, 0, 0⟩), some (.rows 3 1 ((vals l).take n).length (intF ((vals l).take n)))], 2⟩
 have hx : n ≤ l.length := hx
 refine r1 <| sO 17 2 1 rfl <| e1 10 rfl <| keep [2, 5, 14, 15, 16, 17] rfl <| W_seq ?_
 refine q1 rfl (fun hc6 => ?_) (fun hc6 => ?_)
 try simp only [cs, ne_eq] at hc6
 refine W_skip <| tn <| W_seq <| W_block <| r1 <| sO 18 10 1 rfl <| sO 19 18 2 rfl ?_
 refine val 19 (smpS (l.getD n default)) rfl (by first | rfl | (simp only [Nat.zero_add, Int.toNat_natCast]; rfl)) ?_
 refine sT 7 26 3 rfl <| s0O 34 4 rfl rfl rfl rfl rfl <| e1 42 rfl <| keep [2, 5, 7, 14, 15, 16] rfl ?_
 refine r0 ?_
 refine sT 20 42 1 rfl <| sT 21 50 2 rfl <| sO 22 58 3 rfl <| sT 23 66 4 rfl ?_
 refine sV 24 74 5 rfl ⟨Nat.le_refl _, trivial, (by rw [List.length_take]; show (min n (vals l).length + 1) * 8 ≤ 140737488355328; omega), (by simp only [maxLen, List.length_take]; omega)⟩ ?_
 refine sT 5 82 6 rfl <| e1 90 rfl <| bn <| tn ?_
 refine rowsc 74 ((vals l).take (n + 1)).length (intF ((vals l).take (n + 1))) rfl (by rw [List.length_take, List.length_take]; omega) (fun i c hi hc => (cat_one (b := (vals l).getD n 0) (by rw [vals_get (by omega)]) i c hi hc).trans (by rw [bit_take (vals l) n (by omega)])) ?_
 refine cval 5 (.sl 74 0 ((vals l).take (n + 1)).length) rfl (by rw [List.length_take, List.length_take, show min n (vals l).length + 1 = min (n + 1) (vals l).length by omega]) ?_
 refine r0 ?_
 refine sAO 25 90 1 rfl <| sT 16 98 2 rfl <| e1 106 rfl <| tn ?_
 exact again ((n + 1 : Nat)) [0, 74] (show (n + 1) ≤ l.length from (by omega)) (show l.length - (n + 1) < l.length - n from (by omega)) rfl ⟨rfl, rfl, rfl, rfl, rfl, trivial⟩ ⟨rfl, rfl, trivial⟩
 try simp only [cs, ne_eq] at hc6
 refine W_exit <| tx <| tx <| bx <| tn ?_
 obtain rfl : n = l.length := (by omega)
 rw [show (vals l).take l.length = vals l from List.take_of_length_le (by omega)]
 refine freeze 5 1 (vals l).length rfl rfl (Nat.le_refl _) ?_
 refine r1 <| sT 26 10 1 rfl ?_
 refine c1 (refOf_any (vals l) (by omega) (fun n hn => by have := fold_s hv n hn; exact ⟨by omega, by omega⟩)) [] [] 27 18 2 rfl rfl rfl rfl rfl rfl rfl rfl Tryd.func52 rfl rfl rfl rfl trivial rfl rfl ?_
 refine s0O 26 3 rfl rfl rfl rfl rfl <| sT 3 34 4 rfl <| e1 42 rfl <| keep [2, 3] rfl <| W_ret ?_
 exact outN (SV.tup [rollS (ofR l), SV.i (sfault l)]) (π := []) (hout := []) Tryd.results22 rfl (by trivial) (by unfold ofR; rw [if_pos hz, hz, hvl]; rfl) rfl rfl trivial ⟨rfl, rfl⟩
theorem refRollOf_bad (l : List Smp) (hin : SmpIn l) (hz : sfault l ≠ 0) : Spec Tryd.prog GC 22 [smpV l] [] (fun r ho => r = SV.tup [rollS (ofR l), SV.i (sfault l)] ∧ ho = []) := by
 refine start 28 0 Tryd.func22 rfl rfl rfl rfl ?_
 refine r1 <| sT 2 0 1 rfl <| sT 3 8 2 rfl <| e1 16 rfl <| keep [0, 2] rfl <| W_seq <| r1 <| sT 8 16 1 rfl ?_
 refine c1 (sfault_any l hin) [] [] 9 24 2 rfl rfl rfl rfl rfl rfl rfl rfl Tryd.func36 rfl rfl rfl rfl trivial rfl rfl ?_
 refine sT 4 32 3 rfl <| e1 40 rfl <| keep [0, 2, 4] rfl <| r1 <| sT 10 40 1 rfl <| sO 11 48 2 rfl <| e1 56 rfl <| keep [0, 2, 4, 11] rfl ?_
 refine q1 rfl (fun hc2 => ?_) (fun hc2 => ?_)
 try simp only [cs, ne_eq] at hc2
 refine r1 <| sT 12 56 1 rfl <| sT 13 64 2 rfl <| s0O 72 3 rfl rfl rfl rfl rfl <| sT 3 80 4 rfl <| e1 88 rfl <| keep [2, 3] rfl <| W_ret <| tr ?_
 exact outN (SV.tup [rollS (ofR l), SV.i (sfault l)]) (π := []) (hout := []) Tryd.results22 rfl (by trivial) (by unfold ofR; rw [if_neg hz]; rfl) rfl rfl trivial ⟨rfl, rfl⟩
 exact absurd hc2 (by simpa using hz)
theorem refRollOf_any (l : List Smp) (hin : SmpIn l) : Spec Tryd.prog GC 22 [smpV l] [] (fun r ho => r = SV.tup [rollS (ofR l), SV.i (sfault l)] ∧ ho = []) := by
 by_cases hz : sfault l = 0
 · exact refRollOf_ok l hin hz
 · exact refRollOf_bad l hin hz
end Go.Proofs.YtpdojmebloekgaaDoor.Nice.Co
namespace Go.Proofs.YtpdojmebloekgaaDoor.Nice.Co
open Go
set_option linter.unusedVariables false
set_option linter.unusedSimpArgs false
set_option maxRecDepth 100000
set_option maxHeartbeats 4000000
def sampleOf (a : Lst) (x y : Int) : Smp := if a.n = 0 then ⟨x, y⟩ else ⟨a.t + a.st + x, a.v + y⟩
structure DecS where
 M : List Smp
 n : Nat
 e : Int
def decStep (l : List Int) (k : Nat) (p : DecS) : DecS :=
 if p.e ≠ 0 then p
 else if (zgt l p.n).e ≠ 0 then ⟨p.M, 0, (zgt l p.n).e⟩
 else if (zgt l (zgt l p.n).at').e ≠ 0 then ⟨p.M, 0, (zgt l (zgt l p.n).at').e⟩
 else if lfault (lstN p.M k) (sampleOf (lstN p.M k) (zgt l p.n).x (zgt l (zgt l p.n).at').x) ≠ 0 then ⟨p.M, 0, 4⟩
 else ⟨p.M ++ [sampleOf (lstN p.M k) (zgt l p.n).x (zgt l (zgt l p.n).at').x], (zgt l (zgt l p.n).at').at', 0⟩
def decS (l : List Int) : Nat → DecS
 | 0 => ⟨[], 8, 0⟩
 | k + 1 => decStep l k (decS l k)
def restOK (l : List Int) (n : Nat) : Prop := numB l n ((8 * l.length - n) % 8) = 0 ∧ 8 * l.length - n < 8
instance (l : List Int) (n : Nat) : Decidable (restOK l n) := inferInstanceAs (Decidable (_ ∧ _))
def decN (l : List Int) : Nat := (numB l 0 8).toNat
def decE (l : List Int) : Int := if l.length = 0 then 5 else if 120 < numB l 0 8 then 4 else if (decS l (decN l)).e ≠ 0 then (decS l (decN l)).e else if restOK l (decS l (decN l)).n then 0 else 4
def decM (l : List Int) : List Smp := (decS l (decN l)).M
theorem decS_stay {l : List Int} {k n : Nat} (hk : k ≤ n) (h : (decS l k).e ≠ 0) : decS l n = decS l k := by
 induction n with
 | zero => obtain rfl : k = 0 := by omega
           rfl
 | succ n ih =>
   rcases Nat.lt_or_ge n k with hlt | hge
   · obtain rfl : k = n + 1 := by omega
     rfl
   · have := ih hge
     show decStep l n (decS l n) = _
     unfold decStep
     rw [if_pos (by rw [this]; exact h), this]
theorem dec_e1 {l : List Int} {k n : Nat} {M : List Smp} (h : decS l k = ⟨M, n, 0⟩) (h1 : (zgt l n).e ≠ 0) : (decS l (k + 1)).e = (zgt l n).e := by
 show (decStep l k (decS l k)).e = _
 unfold decStep; rw [h]; simp only [ne_eq, not_true, if_false]; rw [if_pos h1]
theorem dec_e2 {l : List Int} {k n : Nat} {M : List Smp} (h : decS l k = ⟨M, n, 0⟩) (h1 : (zgt l n).e = 0) (h2 : (zgt l (zgt l n).at').e ≠ 0) : (decS l (k + 1)).e = (zgt l (zgt l n).at').e := by
 show (decStep l k (decS l k)).e = _
 unfold decStep; rw [h]; simp only [ne_eq, not_true, if_false]; rw [if_neg (by omega), if_pos h2]
theorem dec_e3 {l : List Int} {k n : Nat} {M : List Smp} (h : decS l k = ⟨M, n, 0⟩) (h1 : (zgt l n).e = 0) (h2 : (zgt l (zgt l n).at').e = 0) (h3 : lfault (lstN M k) (sampleOf (lstN M k) (zgt l n).x (zgt l (zgt l n).at').x) ≠ 0) : (decS l (k + 1)).e = 4 := by
 show (decStep l k (decS l k)).e = _
 unfold decStep; rw [h]; simp only [ne_eq, not_true, if_false]; rw [if_neg (by omega), if_neg (by omega), if_pos h3]
theorem dec_e4 {l : List Int} {k n : Nat} {M : List Smp} (h : decS l k = ⟨M, n, 0⟩) (h1 : (zgt l n).e = 0) (h2 : (zgt l (zgt l n).at').e = 0) (h3 : lfault (lstN M k) (sampleOf (lstN M k) (zgt l n).x (zgt l (zgt l n).at').x) = 0) : decS l (k + 1) = ⟨M ++ [sampleOf (lstN M k) (zgt l n).x (zgt l (zgt l n).at').x], (zgt l (zgt l n).at').at', 0⟩ := by
 show (decStep l k (decS l k)) = _
 unfold decStep; rw [h]; simp only [ne_eq, not_true, if_false]; rw [if_neg (by omega), if_neg (by omega), if_neg (by omega)]
theorem decE_loop {l : List Int} {k : Nat} (h0 : l.length ≠ 0) (h1 : numB l 0 8 ≤ 120) (hk : k ≤ decN l) (h : (decS l k).e ≠ 0) : decE l = (decS l k).e := by
 unfold decE
 rw [if_neg h0, if_neg (by omega), decS_stay hk h, if_pos h]
theorem decE_end {l : List Int} {n : Nat} {M : List Smp} (h0 : l.length ≠ 0) (h1 : numB l 0 8 ≤ 120) (h : decS l (decN l) = ⟨M, n, 0⟩) : decE l = if restOK l n then 0 else 4 := by
 unfold decE
 rw [if_neg h0, if_neg (by omega), h]; rfl
theorem lstN_pre (M : List Smp) (s : Smp) : ∀ k, k ≤ M.length → lstN (M ++ [s]) k = lstN M k
 | 0, _ => rfl
 | k + 1, h => by
   show nxt (lstN (M ++ [s]) k) ((M ++ [s]).getD k default) = nxt (lstN M k) (M.getD k default)
   rw [lstN_pre M s k (by omega)]
   have : (M ++ [s]).getD k default = M.getD k default := by simp only [List.getD]; rw [List.getElem?_append_left (by omega)]
   rw [this]
theorem faultTo_pre (M : List Smp) (s : Smp) : ∀ k, k ≤ M.length → faultTo (M ++ [s]) k = faultTo M k
 | 0, _ => rfl
 | k + 1, h => by
   show (if faultTo (M ++ [s]) k = 0 then lfault (lstN (M ++ [s]) k) ((M ++ [s]).getD k default) else faultTo (M ++ [s]) k) = (if faultTo M k = 0 then lfault (lstN M k) (M.getD k default) else faultTo M k)
   rw [lstN_pre M s k (by omega), faultTo_pre M s k (by omega)]
   have : (M ++ [s]).getD k default = M.getD k default := by simp only [List.getD]; rw [List.getElem?_append_left (by omega)]
   rw [this]
theorem getD_last (M : List Smp) (s : Smp) : (M ++ [s]).getD M.length default = s := by simp [List.getD]
theorem faultTo_snoc (M : List Smp) (s : Smp) (h : faultTo M M.length = 0) : faultTo (M ++ [s]) (M.length + 1) = lfault (lstN M M.length) s := by
 show (if faultTo (M ++ [s]) M.length = 0 then lfault (lstN (M ++ [s]) M.length) ((M ++ [s]).getD M.length default) else faultTo (M ++ [s]) M.length) = _
 rw [faultTo_pre M s _ (Nat.le_refl _), if_pos h, lstN_pre M s _ (Nat.le_refl _), getD_last]
theorem lstN_snoc (M : List Smp) (s : Smp) : lstN (M ++ [s]) (M.length + 1) = nxt (lstN M M.length) s := by
 show nxt (lstN (M ++ [s]) M.length) ((M ++ [s]).getD M.length default) = _
 rw [lstN_pre M s _ (Nat.le_refl _), getD_last]
theorem cat_smp' {A : List Smp} {s : Smp} (i c : Nat) (hi : i < A.length + 1) (hc : c < 2) : catR (smpF A) A.length (litR 2 [.val (.int .i64 s.t), .val (.int .i64 s.v)]) i c = smpF (A ++ [s]) i c := by
 unfold catR smpF
 by_cases h : i < A.length
 · rw [if_pos h]; simp [List.getD, List.getElem?_append_left h]
 · obtain rfl : i = A.length := by omega
   rw [if_neg (Nat.lt_irrefl _)]
   have : (A ++ [s]).getD A.length default = s := by simp [List.getD]
   rw [this, Nat.sub_self]
   match c, hc with
   | 0, _ => rfl
   | 1, _ => rfl
theorem sample_any (a : Lst) (x y : Int) (ha : LstIn a) (hx : isSm x) (hy : isSm y) : Spec Tryd.prog GC 47 [.ptr 0 0 0, SV.i x, SV.i y] [.cells 69 4 (lstX a)] (fun r ho => r = smpS (sampleOf a x y) ∧ ho = [some (.cells 69 4 (lstX a))]) := by
 obtain ⟨⟨h1, h2⟩, ⟨h3, h4⟩, ⟨h5, h6⟩, h7, h8⟩ := ha
 obtain ⟨g1a, g2a⟩ := hx
 obtain ⟨g3a, g4a⟩ := hy
 refine start 35 1 Tryd.func47 rfl rfl rfl rfl ?_
 refine r1 <| sT 6 1 1 rfl <| e1 9 rfl <| keep [0, 1, 2, 6] rfl <| W_seq <| r1 <| sT 7 9 1 rfl <| sT 8 17 2 rfl <| sT 9 25 3 rfl <| sO 10 33 4 rfl <| sO 11 41 5 rfl <| e1 49 rfl <| keep [0, 1, 2, 6, 11] rfl ?_
 refine q1 rfl (fun hc1 => ?_) (fun hc1 => ?_)
 try simp only [cs, ne_eq] at hc1
 refine r1 <| sT 12 49 1 rfl <| sT 13 57 2 rfl <| sT 14 65 3 rfl <| s0O 73 4 rfl rfl rfl rfl rfl <| e1 81 rfl <| keep [6] rfl <| W_ret <| tr ?_
 exact outN (smpS (sampleOf a x y)) (π := [0]) (hout := [some (.cells 69 4 (lstX a))]) Tryd.results47 rfl (by trivial) (by unfold sampleOf; rw [if_pos (by omega)]; rfl) rfl rfl ⟨rfl, trivial⟩ ⟨rfl, rfl⟩
 try simp only [cs, ne_eq] at hc1
 refine W_skip <| tn ?_
 refine rd1 rfl ?_
 refine dT 15 49 1 rfl <| dT 16 57 2 rfl <| dT 17 65 3 rfl <| dT 18 73 4 rfl <| dO 19 81 5 rfl <| dT 20 89 6 rfl <| dT 21 97 7 rfl <| dT 22 105 8 rfl <| dO 23 113 9 rfl <| dAO 24 121 10 rfl <| dT 25 129 11 rfl <| dAO 26 137 12 rfl <| dT 27 145 13 rfl <| dT 28 153 14 rfl <| dT 29 161 15 rfl <| dT 30 169 16 rfl ?_
 refine dO 31 177 17 rfl <| dT 32 185 18 rfl <| dAO 33 193 19 rfl <| dT 34 201 20 rfl ?_
 refine d0 209 21 rfl rfl rfl rfl rfl (by first | trivial | omega) ?_
 refine de1 217 rfl (by kernel_rfl) <| keep [6] rfl <| W_ret ?_
 exact outN (smpS (sampleOf a x y)) (π := [0]) (hout := [some (.cells 69 4 (lstX a))]) Tryd.results47 rfl (by trivial) (by unfold sampleOf; rw [if_neg (by omega)]; rfl) rfl rfl ⟨rfl, trivial⟩ ⟨rfl, rfl⟩
theorem decode_any (l : List Int) (hl : Bytes l) : Spec Tryd.prog GC 19 [u8V l] [] (fun r ho => (decE l = 0 ∧ r = SV.tup [.sl 0 0 (decM l).length, SV.i 0] ∧ ho = [some (.rows 67 2 (decM l).length (smpF (decM l)))]) ∨ (decE l ≠ 0 ∧ r = SV.tup [.d .nils, SV.i (decE l)] ∧ ho = [])) := by
 have hlb := hl
 obtain ⟨hl1, hl2⟩ := hl
 refine start 76 0 Tryd.func19 rfl rfl rfl rfl ?_
 refine r1 <| sT 2 0 1 rfl <| sT 3 8 2 rfl <| e1 16 rfl <| keep [0] rfl <| r1 <| sT 15 16 1 rfl ?_
 refine c1 (open_any l) [] [24] 16 24 2 rfl rfl rfl rfl rfl rfl rfl rfl Tryd.func44 rfl rfl rfl rfl trivial rfl rfl ?_
 refine sT 4 32 3 rfl <| e1 40 rfl <| keep [4] rfl <| r1 <| sT 18 40 1 rfl ?_
 refine c1 (get_any l hlb 0 (by omega) 8 (by decide)) [24] [24] 19 48 2 rfl rfl rfl rfl rfl rfl rfl rfl Tryd.func45 rfl rfl rfl rfl ⟨rfl, trivial⟩ rfl rfl ?_
 refine sT 17 56 3 rfl <| sT 20 64 4 rfl <| sT 21 72 5 rfl <| sT 5 80 6 rfl <| sT 6 88 7 rfl <| e1 96 rfl <| keep [4, 5, 6] rfl <| W_seq <| W_block <| r1 <| sT 23 96 1 rfl <| sT 24 104 2 rfl <| sT 22 112 3 rfl <| e1 120 rfl <| keep [4, 5, 22] rfl ?_
 refine q1 rfl (fun hc3 => ?_) (fun hc3 => ?_)
 try simp only [cs, ne_eq] at hc3
 refine r1 <| sT 2 120 1 rfl <| sT 3 128 2 rfl <| e1 136 rfl <| keep [2, 3] rfl <| W_ret <| br <| tr ?_
 have hE : decE l = 5 := (by unfold decE; rw [if_pos (by simp [gok] at hc3; omega)])
 exact out2 2 3 (.d .nils) (SV.i (decE l)) (π := []) (hout := []) Tryd.results19 rfl rfl rfl (by rw [hE]; rfl) rfl rfl trivial (.inr ⟨by rw [hE]; first | decide | assumption, rfl, rfl⟩)
 try simp only [cs, ne_eq] at hc3
 have h0 : l.length ≠ 0 := (by simp [gok] at hc3; omega)
 have hok8 : 0 + 8 ≤ 8 * l.length := (by omega)
 have hgv : gval l 0 8 = numB l 0 8 := if_pos hok8
 have hgp : gpos l 0 8 = 8 := if_pos hok8
 refine r1 <| sT 26 120 1 rfl <| sO 27 128 2 rfl <| sT 25 136 3 rfl <| e1 144 rfl <| keep [4, 5, 25] rfl ?_
 refine q1 rfl (fun hc5 => ?_) (fun hc5 => ?_)
 try simp only [cs, ne_eq] at hc5
 refine r1 <| sT 2 144 1 rfl <| sT 3 152 2 rfl <| e1 160 rfl <| keep [2, 3] rfl <| W_ret <| br <| tr ?_
 have hE : decE l = 4 := (by unfold decE; rw [if_neg h0, if_pos (by rw [← hgv]; simpa using hc5)])
 exact out2 2 3 (.d .nils) (SV.i (decE l)) (π := []) (hout := []) Tryd.results19 rfl rfl rfl (by rw [hE]; rfl) rfl rfl trivial (.inr ⟨by rw [hE]; first | decide | assumption, rfl, rfl⟩)
 try simp only [cs, ne_eq] at hc5
 have hN : numB l 0 8 ≤ 120 := (by rw [← hgv]; omega)
 have hN0 := (numB_bd l 0 8).1
 refine W_skip <| bn <| tn <| r1 <| sT 7 144 1 rfl <| e1 152 rfl <| keep [4, 5, 7] rfl <| r1 <| sT 8 152 1 rfl <| e1 160 rfl <| keep [4, 5, 7, 8] rfl <| W_seq ?_
 refine cval 5 (SV.i (numB l 0 8)) rfl (by rw [hgv]) ?_
 refine chval 24 (.cells 127 2 [u8V l, SV.i (8 : Nat)]) rfl (by rw [hgp]; rfl) ?_
 refine r1 <| sT 28 160 1 rfl <| sT 29 168 2 rfl <| e1 176 rfl <| keep [4, 7, 8, 28, 29] rfl <| W_block ?_
 refine ghostly 7 67 2 (smpF []) rfl ?_
 refine loop (α := Nat × Nat × List Smp) 3 (fun z => [(4, .ptr 0 0 0), (7, .sl 2 0 (z.2.2).length), (8, .ptr 1 0 0), (28, SV.i (numB l 0 8)), (29, SV.i (z.1))]) (fun z => [some (.cells 127 2 [u8V l, SV.i ((z.2.1) : Nat)]), some (.cells 69 4 (lstX (lstN (z.2.2) (z.1)))), some (.rows 67 2 (z.2.2).length (smpF (z.2.2)))]) (fun z => ((z.1) : Int) ≤ numB l 0 8 ∧ decS l (z.1) = ⟨(z.2.2), (z.2.1), 0⟩ ∧ (z.2.2).length = (z.1) ∧ faultTo (z.2.2) (z.1) = 0 ∧ (z.2.1) ≤ 8 * l.length) (fun z => (numB l 0 8).toNat - (z.1)) (((0, 8, []) : Nat × Nat × List Smp)) [24, 152, 176] (fun _ => rfl) (show ((0) : Int) ≤ numB l 0 8 ∧ decS l (0) = ⟨([]), (8), 0⟩ ∧ ([]).length = (0) ∧ faultTo ([]) (0) = 0 ∧ (8) ≤ 8 * l.length from ⟨hN0, rfl, rfl, rfl, by omega⟩) rfl ⟨rfl, rfl, rfl, rfl, rfl, trivial⟩ ⟨rfl, rfl, rfl, trivial⟩ (fun z hx => ?_)
 obtain ⟨k, n, M⟩ := z
 show W _ _ _ ⟨tOf [(4, .ptr 0 0 0), (7, .sl 2 0 M.length), (8, .ptr 1 0 0), (28, SV.i (numB l 0 8)), (29, SV.i k)], hOf [some (.cells 127 2 [u8V l, SV.i (n : Nat)]), some (.cells 69 4 (lstX (lstN M k))), some (.rows 67 2 M.length (smpF M))], 3⟩
 have hx : (k : Int) ≤ numB l 0 8 ∧ decS l k = ⟨M, n, 0⟩ ∧ M.length = k ∧ faultTo M k = 0 ∧ n ≤ 8 * l.length := hx
 obtain ⟨hk, hd, hMl, hf, hn⟩ := hx
 have ha := lst_in hf (by omega)
 refine r1 <| sO 30 3 1 rfl <| e1 11 rfl <| keep [4, 7, 8, 28, 29, 30] rfl <| W_seq ?_
 refine q1 rfl (fun hc10 => ?_) (fun hc10 => ?_)
 try simp only [cs, ne_eq] at hc10
 refine W_skip <| tn <| W_seq <| W_block <| r1 <| sT 32 11 1 rfl ?_
 refine c1 (zget_any l hlb n hn) [0] [0] 33 19 2 rfl rfl rfl rfl rfl rfl rfl rfl Tryd.func46 rfl rfl rfl rfl ⟨rfl, trivial⟩ rfl rfl ?_
 refine sT 31 27 3 rfl <| sT 34 35 4 rfl <| sT 35 43 5 rfl <| sT 9 51 6 rfl <| sT 10 59 7 rfl <| e1 67 rfl <| keep [4, 7, 8, 9, 10, 28, 29] rfl <| W_seq <| r1 <| sT 36 67 1 rfl <| sO 37 75 2 rfl <| e1 83 rfl <| keep [4, 7, 8, 9, 10, 28, 29, 37] rfl ?_
 refine q1 rfl (fun hc12 => ?_) (fun hc12 => ?_)
 try simp only [cs, ne_eq] at hc12
 refine r1 <| sT 38 83 1 rfl <| sT 2 91 2 rfl <| sT 3 99 3 rfl <| e1 107 rfl <| keep [2, 3] rfl <| W_ret <| tr <| br <| tr <| tr <| br <| tr ?_
 have he := dec_e1 hd hc12
 have hE : decE l = (zgt l n).e := (by rw [decE_loop h0 hN (show k + 1 ≤ decN l by unfold decN; omega) (by rw [he]; exact hc12), he])
 exact out2 2 3 (.d .nils) (SV.i (decE l)) (π := []) (hout := []) Tryd.results19 rfl rfl rfl (by rw [hE]; rfl) rfl rfl trivial (.inr ⟨by rw [hE]; first | decide | assumption, rfl, rfl⟩)
 try simp only [cs, ne_eq] at hc12
 refine W_skip <| tn <| r1 <| sT 40 83 1 rfl ?_
 refine c1 (zget_any l hlb ((zgt l n).at') (zgt_le l n hn)) [0] [0] 41 91 2 rfl rfl rfl rfl rfl rfl rfl rfl Tryd.func46 rfl rfl rfl rfl ⟨rfl, trivial⟩ rfl rfl ?_
 refine sT 39 99 3 rfl <| sT 42 107 4 rfl <| sT 43 115 5 rfl <| sT 11 123 6 rfl <| sT 10 131 7 rfl <| e1 139 rfl <| keep [4, 7, 8, 9, 10, 11, 28, 29] rfl <| W_seq <| r1 <| sT 44 139 1 rfl <| sO 45 147 2 rfl <| e1 155 rfl <| keep [4, 7, 8, 9, 10, 11, 28, 29, 45] rfl ?_
 refine q1 rfl (fun hc15 => ?_) (fun hc15 => ?_)
 try simp only [cs, ne_eq] at hc15
 refine r1 <| sT 46 155 1 rfl <| sT 2 163 2 rfl <| sT 3 171 3 rfl <| e1 179 rfl <| keep [2, 3] rfl <| W_ret <| tr <| br <| tr <| tr <| br <| tr ?_
 have he := dec_e2 hd hc12 hc15
 have hE : decE l = (zgt l ((zgt l n).at')).e := (by rw [decE_loop h0 hN (show k + 1 ≤ decN l by unfold decN; omega) (by rw [he]; exact hc15), he])
 exact out2 2 3 (.d .nils) (SV.i (decE l)) (π := []) (hout := []) Tryd.results19 rfl rfl rfl (by rw [hE]; rfl) rfl rfl trivial (.inr ⟨by rw [hE]; first | decide | assumption, rfl, rfl⟩)
 try simp only [cs, ne_eq] at hc15
 refine W_skip <| tn <| r1 <| sT 47 155 1 rfl <| sT 48 163 2 rfl ?_
 refine c1 (sample_any (lstN M k) (zgt l n).x (zgt l ((zgt l n).at')).x ha (zgt_sm l n) (zgt_sm l _)) [1] [1] 49 171 3 rfl rfl rfl rfl rfl rfl rfl rfl Tryd.func47 rfl rfl rfl rfl ⟨rfl, trivial⟩ rfl rfl ?_
 refine sT 12 179 4 rfl <| s0O 187 5 rfl rfl rfl rfl rfl <| e1 195 rfl <| keep [4, 7, 8, 12, 28, 29] rfl <| W_seq <| r1 <| sO 50 195 1 rfl ?_
 refine c1 (fault_any (lstN M k) (sampleOf (lstN M k) (zgt l n).x (zgt l ((zgt l n).at')).x)) [1] [1] 51 203 2 rfl rfl rfl rfl rfl rfl rfl rfl Tryd.func31 rfl rfl rfl rfl ⟨rfl, trivial⟩ rfl rfl ?_
 refine sO 52 211 3 rfl <| e1 219 rfl <| keep [4, 7, 8, 12, 28, 29, 52] rfl ?_
 refine q1 rfl (fun hc18 => ?_) (fun hc18 => ?_)
 try simp only [cs, ne_eq] at hc18
 refine r1 <| sT 2 219 1 rfl <| sT 3 227 2 rfl <| e1 235 rfl <| keep [2, 3] rfl <| W_ret <| tr <| br <| tr <| tr <| br <| tr ?_
 have he := dec_e3 hd hc12 hc15 hc18
 have hE : decE l = 4 := (by rw [decE_loop h0 hN (show k + 1 ≤ decN l by unfold decN; omega) (by rw [he]; decide), he])
 exact out2 2 3 (.d .nils) (SV.i (decE l)) (π := []) (hout := []) Tryd.results19 rfl rfl rfl (by rw [hE]; rfl) rfl rfl trivial (.inr ⟨by rw [hE]; first | decide | assumption, rfl, rfl⟩)
 try simp only [cs, ne_eq] at hc18
 have hf2 := lfault_zero hc18
 have hds := dec_e4 hd hc12 hc15 hc18
 refine W_skip <| tn <| r1 <| sO 53 219 1 rfl ?_
 refine c1 (next_any (lstN M k) (sampleOf (lstN M k) (zgt l n).x (zgt l ((zgt l n).at')).x) ha hf2.1 hf2.2.1) [1] [1] 54 227 2 rfl rfl rfl rfl rfl rfl rfl rfl Tryd.func34 rfl rfl rfl rfl ⟨rfl, trivial⟩ rfl rfl ?_
 refine e1 235 rfl <| keep [4, 7, 8, 12, 28, 29] rfl ?_
 refine r0 ?_
 refine sT 55 235 1 rfl <| sO 56 243 2 rfl <| sT 57 251 3 rfl ?_
 refine sV 58 259 4 rfl ⟨Nat.le_refl _, trivial, (by show (M.length + 1) * 16 ≤ 140737488355328; omega), (by simp only [maxLen]; omega)⟩ ?_
 refine sT 7 267 5 rfl <| e1 275 rfl <| bn <| tn ?_
 refine rowsc 259 (M ++ [(sampleOf (lstN M k) (zgt l n).x (zgt l ((zgt l n).at')).x)]).length (smpF (M ++ [(sampleOf (lstN M k) (zgt l n).x (zgt l ((zgt l n).at')).x)])) rfl (by simp) (fun q c hq hc => cat_smp' (s := (sampleOf (lstN M k) (zgt l n).x (zgt l ((zgt l n).at')).x)) q c hq hc) ?_
 refine cval 7 (.sl 259 0 (M ++ [(sampleOf (lstN M k) (zgt l n).x (zgt l ((zgt l n).at')).x)]).length) rfl (by simp) ?_
 have hls : lstN (M ++ [(sampleOf (lstN M k) (zgt l n).x (zgt l ((zgt l n).at')).x)]) (k + 1) = nxt (lstN M k) (sampleOf (lstN M k) (zgt l n).x (zgt l ((zgt l n).at')).x) := (by rw [← hMl]; exact lstN_snoc M _)
 refine chval 1 (.cells 69 4 (lstX (lstN (M ++ [(sampleOf (lstN M k) (zgt l n).x (zgt l ((zgt l n).at')).x)]) (k + 1)))) rfl (by rw [hls]; rfl) ?_
 refine r0 ?_
 refine sAO 59 275 1 rfl <| sT 29 283 2 rfl <| e1 291 rfl <| tn ?_
 exact again (((k + 1, (zgt l ((zgt l n).at')).at', M ++ [(sampleOf (lstN M k) (zgt l n).x (zgt l ((zgt l n).at')).x)]) : Nat × Nat × List Smp)) [0, 1, 259] (show ((k + 1) : Int) ≤ numB l 0 8 ∧ decS l (k + 1) = ⟨(M ++ [(sampleOf (lstN M k) (zgt l n).x (zgt l ((zgt l n).at')).x)]), ((zgt l ((zgt l n).at')).at'), 0⟩ ∧ (M ++ [(sampleOf (lstN M k) (zgt l n).x (zgt l ((zgt l n).at')).x)]).length = (k + 1) ∧ faultTo (M ++ [(sampleOf (lstN M k) (zgt l n).x (zgt l ((zgt l n).at')).x)]) (k + 1) = 0 ∧ ((zgt l ((zgt l n).at')).at') ≤ 8 * l.length from ⟨by omega, hds, by simp [hMl], (by rw [← hMl, faultTo_snoc M _ (by rw [hMl]; exact hf), hMl]; exact hc18), zgt_le l _ (zgt_le l n hn)⟩) (show (numB l 0 8).toNat - (k + 1) < (numB l 0 8).toNat - k from (by omega)) rfl ⟨rfl, rfl, rfl, rfl, rfl, trivial⟩ ⟨rfl, rfl, rfl, trivial⟩
 try simp only [cs, ne_eq] at hc10
 refine W_exit <| tx <| tx <| bx <| tn ?_
 have hkN : k = decN l := (by unfold decN; omega)
 have hdN : decS l (decN l) = ⟨M, n, 0⟩ := (by rw [← hkN]; exact hd)
 have hend := decE_end h0 hN hdN
 refine r1 <| sT 61 11 1 rfl <| sT 62 19 2 rfl ?_
 refine c1 (left_any l hlb n hn) [0] [0] 63 27 3 rfl rfl rfl rfl rfl rfl rfl rfl Tryd.func48 rfl rfl rfl rfl ⟨rfl, trivial⟩ rfl rfl ?_
 refine sD 64 35 4 rfl rfl rfl rfl rfl rfl rfl rfl rfl (by omega) ?_
 refine val 64 (SV.i (((8 * l.length - n) % 8) : Nat)) rfl (congrArg (fun x => SV.d (D.val (Value.int .i64 x))) (by omega)) ?_
 refine c1 (get_any l hlb n hn ((8 * l.length - n) % 8) (by omega)) [0] [0] 65 43 5 rfl rfl rfl rfl rfl rfl rfl rfl Tryd.func45 rfl rfl rfl rfl ⟨rfl, trivial⟩ rfl rfl ?_
 refine sT 60 51 6 rfl <| sT 66 59 7 rfl <| sT 67 67 8 rfl <| sT 13 75 9 rfl <| sT 14 83 10 rfl <| e1 91 rfl <| keep [4, 7, 13] rfl <| W_seq ?_
 have hok : n + ((8 * l.length - n) % 8) ≤ 8 * l.length := (by omega)
 have hgv2 : gval l n ((8 * l.length - n) % 8) = numB l n ((8 * l.length - n) % 8) := if_pos hok
 have hgp2 : gpos l n ((8 * l.length - n) % 8) = n + ((8 * l.length - n) % 8) := if_pos hok
 have hnb := (numB_bd l n ((8 * l.length - n) % 8)).1
 refine cval 13 (SV.i (numB l n ((8 * l.length - n) % 8))) rfl (by rw [hgv2]) ?_
 refine chval 0 (.cells 127 2 [u8V l, SV.i (n + ((8 * l.length - n) % 8) : Nat)]) rfl (by rw [hgp2]; rfl) ?_
 refine r1 <| sT 68 91 1 rfl <| sO 69 99 2 rfl <| sT 70 107 3 rfl ?_
 refine ask 70 rfl (fun hg24_70 => ?_) (fun hg24_70 => ?_)
 try simp only [cs, ne_eq] at hg24_70
 refine gF 2 false 70 71 4 rfl rfl <| gF 2 false 70 72 5 rfl rfl <| gF 2 false 70 73 6 rfl rfl <| sT 74 139 7 rfl <| e1 147 rfl <| keep [7, 74] rfl ?_
 refine q1 rfl (fun hc24 => ?_) (fun hc24 => ?_)
 try simp only [cs, ne_eq] at hc24
 refine r1 <| sT 2 147 1 rfl <| sT 3 155 2 rfl <| e1 163 rfl <| keep [2, 3] rfl <| W_ret <| tr ?_
 have hE : decE l = 4 := (by rw [hend, if_neg (by unfold restOK; omega)])
 exact out2 2 3 (.d .nils) (SV.i (decE l)) (π := []) (hout := []) Tryd.results19 rfl rfl rfl (by rw [hE]; rfl) rfl rfl trivial (.inr ⟨by rw [hE]; first | decide | assumption, rfl, rfl⟩)
 exact absurd hc24 (by decide)
 try simp only [cs, ne_eq] at hg24_70
 refine gT 2 false 70 4 rfl rfl <| sT 71 115 4 rfl <| gT 2 false 70 5 rfl rfl ?_
 refine c1 (left_any l hlb (n + ((8 * l.length - n) % 8)) (by omega)) [0] [0] 72 123 5 rfl rfl rfl rfl rfl rfl rfl rfl Tryd.func48 rfl rfl rfl rfl ⟨rfl, trivial⟩ rfl rfl ?_
 refine gT 2 false 70 6 rfl rfl <| sO 73 131 6 rfl <| sT 74 139 7 rfl <| e1 147 rfl <| keep [7, 74] rfl ?_
 refine q1 rfl (fun hc24 => ?_) (fun hc24 => ?_)
 try simp only [cs, ne_eq] at hc24
 refine r1 <| sT 2 147 1 rfl <| sT 3 155 2 rfl <| e1 163 rfl <| keep [2, 3] rfl <| W_ret <| tr ?_
 have hE : decE l = 4 := (by rw [hend, if_neg (by unfold restOK; omega)])
 exact out2 2 3 (.d .nils) (SV.i (decE l)) (π := []) (hout := []) Tryd.results19 rfl rfl rfl (by rw [hE]; rfl) rfl rfl trivial (.inr ⟨by rw [hE]; first | decide | assumption, rfl, rfl⟩)
 try simp only [cs, ne_eq] at hc24
 refine W_skip <| tn <| r1 <| sT 75 147 1 rfl <| sT 2 155 2 rfl <| sT 3 163 3 rfl <| e1 171 rfl <| keep [2, 3] rfl <| W_ret ?_
 have hE : decE l = 0 := (by rw [hend, if_pos (by unfold restOK; omega)])
 have hMM : decM l = M := (by unfold decM; rw [hdN])
 exact out2 2 3 (.sl 0 0 (decM l).length) (SV.i 0) (π := [2]) (hout := [some (.rows 67 2 (decM l).length (smpF (decM l)))]) Tryd.results19 rfl rfl (by rw [hMM]; rfl) rfl rfl rfl ⟨(by rw [hMM]; rfl), trivial⟩ (.inl ⟨hE, rfl, rfl⟩)
end Go.Proofs.YtpdojmebloekgaaDoor.Nice.Co
namespace Go.Proofs.YtpdojmebloekgaaDoor.Nice.Co
open Go Go.Conc
set_option linter.unusedVariables false
set_option linter.unusedSimpArgs false
theorem still_forIn {P : Program} {α β : Type} {f : α → β → Sem (ForInStep β)} (hf : ∀ a b, Still P (f a b)) : ∀ (l : List α) (b : β), Still P (forIn l b f)
 | [], b => by rw [List.forIn_nil]; exact .pure _
 | a :: l, b => by
   rw [List.forIn_cons]
   refine .bind (hf a b) fun r => ?_
   cases r with
   | done b => exact .pure _
   | yield b => exact still_forIn hf l b
theorem still_forInA {P : Program} {α β : Type} {f : α → β → Sem (ForInStep β)} (hf : ∀ a b, Still P (f a b)) (l : Array α) (b : β) : Still P (forIn l b f) := by
 rw [← Array.forIn_toList]
 exact still_forIn hf l.toList b
theorem at_bytes {P : Program} {R Wr : Nat → Prop} {w : World} {ba : Option Addr} {n c : Nat} (h : n = 0 ∨ ∃ ad, ba = some ad ∧ CellsAt w ad.block ∧ R ad.block) : At P R Wr (Conv.bytesToString (.slice ba n c)) w := by
 cases ba with
 | none => unfold Conv.bytesToString; exact (Still.pure _).at
 | some a =>
   unfold Conv.bytesToString loadCells
   refine .bind ?_ fun cs w' hw => ?_
   · rcases h with rfl | ⟨ad, e, h1, h2⟩
     · exact (Still.pure _).at
     · cases e; exact at_loadCellsFrom h1 h2 _ _ _
   · refine Still.at ?_
     refine .bind (still_forInA (fun c r => ?_) cs _) fun _ => .pure _
     split
     · exact .pure _
     · first | exact Still.halt _ | exact .bind (Still.halt _) fun _ => .pure _
theorem strOK {C : Ctx} {o : Oper} {nm : Nat} {v : Operand → SV} {src dst e : TypeId} {y : Operand} {f : Nat → Nat → D} (L : List UInt8) (ho : o.op = .convert src dst y)
   (hs : C.P.underlying src = some (.slice e)) (he : C.P.underlying e = some (.int .u8)) (hds : C.P.underlying dst = some .string)
   (hy : v y = .d (.vec 1 L.length f)) (hf : ∀ (j : Nat) (hj : j < L.length), f j 0 = .val (.int .u8 (L[j].toNat : Int))) :
   Nice.OpOK C o nm v [] (fun x z => x = .d (.val (.string ⟨L.toArray⟩)) ∧ z = []) := by
 refine ok_pure fun M F ρ a hh w hv hH _ => ⟨.string ⟨L.toArray⟩, ?_, .d _ _ (.val _ rfl)⟩
 have e1 := hv y (by rw [ho]; simp [Op.operands]); rw [hy] at e1
 have : (convert src dst (a.eval y)).run C.P w = .ok (.string ⟨L.toArray⟩) w := by
   generalize a.eval y = q at e1
   cases e1 with
   | d _ _ hD =>
     generalize hLn : L.length = n at hD
     cases hD with
     | vec0 _ _ ad cap =>
       have : L = [] := List.length_eq_zero_iff.1 hLn
       subst this
       cases ad with
       | none => exact conv_none w src dst e _ _ hs he hds
       | some x => exact run_convert_bytes_back w src dst e x cap [] hs he hds (fun j hj => by simp at hj)
     | vec _ _ _ b oo cap cur T fz g hb hc hgg hr =>
       subst hLn
       refine run_convert_bytes_back w src dst e ⟨b, oo, none⟩ cap L hs he hds fun j hj => ?_
       have h1 := hgg j 0 hj (by omega)
       have h2 := hr j 0 hj (by omega)
       rw [hf j hj] at h2
       generalize hgq : g j 0 = gq at h1 h2
       cases h2
       have h3 := hH.imm b _ hb
       have ea : (⟨b, oo, none⟩ : Addr).add j = ⟨b, oo + j, none⟩ := by unfold Addr.add; split <;> simp_all
       rw [ea]
       unfold World.cell?
       simp only [h3]
       simpa using h1
 unfold execOp
 simp only [ho, Sem.run_bind, this, Result.andThen_ok, Sem.run_pure]
theorem strEv {C : Ctx} {o : Oper} {v : Operand → SV} {src dst e : TypeId} {y : Operand} {n : Nat} {f : Nat → Nat → D} (ho : o.op = .convert src dst y)
   (hs : C.P.underlying src = some (.slice e)) (he : C.P.underlying e = some (.int .u8)) (hds : C.P.underlying dst = some .string) (hy : v y = .d (.vec 1 n f)) : OpEv C o v [] := by
 intro M F ρ a h w hv hH _ ev hev
 have e1 := hv y (by rw [ho]; simp [Op.operands]); rw [hy] at e1
 have key : ∀ ba len cap, a.eval y = .slice ba len cap → (len = 0 ∨ ∃ ad, ba = some ad ∧ CellsAt w ad.block ∧ M ad.block ≠ none) → EvB M ρ h ev := by
   intro ba len cap hq hb
   have hat := at_bytes (P := C.P) (R := fun b => M b ≠ none) (Wr := fun _ => False) (w := w) (c := cap) hb
   have : ev ∈ (Conv.bytesToString (.slice ba len cap)).events C.P w #[] := by
     have h2 := hev
     unfold execOp at h2
     simp only [ho] at h2
     rw [hq] at h2
     simp only [Sem.events_bind] at h2
     revert h2
     cases hr : (convert src dst (.slice ba len cap)).run C.P w with
     | halt x w' => intro h2; simpa [convert, run_underlying hs, run_underlying hds, run_underlying he] using h2
     | ok x w' => intro h2; simpa [convert, run_underlying hs, run_underlying hds, run_underlying he] using h2
   rcases hat #[] ev this with h1 | ⟨ad, s, h1, h2⟩ | ⟨ad, s, h1, h2⟩ | h1
   · simp at h1
   · exact .inl ⟨ad, s, h1, .inl h2⟩
   · exact h2.elim
   · exact .inr (.inr h1)
 generalize hq : a.eval y = q at e1
 cases e1 with
 | d _ _ hD => cases hD with
   | vec0 _ _ ad cap => exact key _ _ _ hq (.inl rfl)
   | vec _ _ _ b oo cap cur T fz g hb hc hgg hr => exact key _ _ _ hq (.inr ⟨_, rfl, ⟨_, _, _, hH.imm b _ hb⟩, by rw [hb]; simp⟩)
theorem sStr {C : Ctx} {ops : List Oper} {i : Nat} {o : Oper} {l : List Oper} {t : Nat → SV} {h : Heap} {nx : Nat} {K : St → Prop} {src dst e : TypeId} {y : Operand} {len : Nat} {f : Nat → Nat → D} (L : List UInt8) (d nm i' : Nat) (hi : i + 1 = i') (hnm : nx + 8 * i = nm) (hg : o.guard = none) (hdst : o.dst = some d) (hd : Nat.blt d C.sz = true) (ho : o.op = .convert src dst y)
   (hs : C.P.underlying src = some (.slice e)) (he : C.P.underlying e = some (.int .u8)) (hds : C.P.underlying dst = some .string)
   (hy : (opv C t y).hd = some (.d (.vec 1 len f))) (hlen : len = L.length) (hf : ∀ (j : Nat) (hj : j < L.length), f j 0 = .val (.int .u8 (L[j].toNat : Int)))
   (k : wops C ops i' l ⟨upd t d (.d (.val (.string ⟨L.toArray⟩))), h, nx⟩ none K) : wops C ops i (o :: l) ⟨t, h, nx⟩ none K := by
 subst hi; subst hnm; subst hlen
 have hok : OpOK C o (nx + 8 * i) (opv C t) [] (fun x z => x = .d (.val (.string ⟨L.toArray⟩)) ∧ z = []) := .of (strOK L ho hs he hds (SV.hd_eq hy) hf) (.plain (by rw [ho]; rfl)) (strEv ho hs he hds (SV.hd_eq hy))
 refine st_ok (σ := ⟨t, h, nx⟩) hg (by unfold dstOK; rw [hdst]; exact hd) hok (fun p hp => by simp at hp) rfl ?_
 unfold St.app; rw [hdst]; exact k
end Go.Proofs.YtpdojmebloekgaaDoor.Nice.Co
