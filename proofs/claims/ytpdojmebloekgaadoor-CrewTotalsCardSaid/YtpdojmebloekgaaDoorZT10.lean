/- Part 10 of the proof of CrewTotals: ChunkDecR, ChunkCan, ChunkDecoded, CrewR1, Wf, CrewR2, ArgsB, CrewRT, CrewR3. -/
import Derived.Test.YtpdojmebloekgaaDoorZT9
namespace Go.Proofs.YtpdojmebloekgaaDoor.Nice.Co
open Go
set_option linter.unusedVariables false
set_option linter.unusedSimpArgs false
set_option maxRecDepth 100000
set_option maxHeartbeats 4000000
theorem shr128b {k : Int} {r : Nat} (h : k = r) (hr : r < 8) : (128 : Int).fdiv (2 ^ (min k.toNat 64)) = 2 ^ (7 - r) := by
 subst h
 have e : r = 0 ∨ r = 1 ∨ r = 2 ∨ r = 3 ∨ r = 4 ∨ r = 5 ∨ r = 6 ∨ r = 7 := by omega
 rcases e with rfl | rfl | rfl | rfl | rfl | rfl | rfl | rfl <;> decide
def wL : List Int := [0, 6, 12, 24, 59]
def lowL : List Int := [0, 1, 64, 4096, 16777216]
theorem wL_get {q : Nat} (h : q ≤ 4) : wL.getD q 0 = clB q := by
 match q, h with
 | 0, _ | 1, _ | 2, _ | 3, _ | 4, _ => rfl
theorem cls_low {q : Nat} (h : q ≤ 4) {x : Int} (h0 : 0 ≤ x) (h1 : x < 2 ^ clB q) : cls x = q ↔ ¬ (0 < clB q ∧ x < lowL.getD q 0) := by
 have e0 : (2 : Int) ^ 0 = 1 := by decide
 have e1 : (2 : Int) ^ 6 = 64 := by decide
 have e2 : (2 : Int) ^ 12 = 4096 := by decide
 have e3 : (2 : Int) ^ 24 = 16777216 := by decide
 have hc : clB 0 = 0 ∧ clB 1 = 6 ∧ clB 2 = 12 ∧ clB 3 = 24 ∧ clB 4 = 59 := ⟨rfl, rfl, rfl, rfl, rfl⟩
 obtain ⟨c0, c1, c2, c3, c4⟩ := hc
 have hl : lowL.getD 0 0 = 0 ∧ lowL.getD 1 0 = 1 ∧ lowL.getD 2 0 = 64 ∧ lowL.getD 3 0 = 4096 ∧ lowL.getD 4 0 = 16777216 := ⟨rfl, rfl, rfl, rfl, rfl⟩
 obtain ⟨l0, l1, l2, l3, l4⟩ := hl
 unfold cls
 rcases (show q = 0 ∨ q = 1 ∨ q = 2 ∨ q = 3 ∨ q = 4 by omega) with rfl | rfl | rfl | rfl | rfl
 · rw [c0, e0] at h1; rw [c0, l0, if_pos (by omega)]; omega
 · rw [c1, e1] at h1; rw [c1, l1]; repeat' split
   all_goals omega
 · rw [c2, e2] at h1; rw [c2, l2]; repeat' split
   all_goals omega
 · rw [c3, e3] at h1; rw [c3, l3]; repeat' split
   all_goals omega
 · rw [c4, l4]; repeat' split
   all_goals omega
theorem tdiv_unf {x : Int} (h0 : 0 ≤ x) (h1 : x < 576460752303423488) (h : x % 2 = 1) : IntKind.i64.wrap ((-(x + 1)).tdiv 2) = zUnf x := by
 unfold zUnf
 rw [if_pos h, Int.neg_tdiv, Int.tdiv_eq_ediv_of_nonneg (by omega)]
 exact wrap_in ⟨by omega, by omega⟩
def zgA (l : List Int) (n : Nat) : Nat := if (zgt l n).e = 0 then (zgt l n).at' else 0
theorem byte8 {l : List Int} (hl : Bytes l) : numB l 0 8 = l.getD 0 0 := by
 have := hl.b 0
 show 2 * (2 * (2 * (2 * (2 * (2 * (2 * (2 * 0 + l.getD 0 0 / 2 ^ 7 % 2) + l.getD 0 0 / 2 ^ 6 % 2) + l.getD 0 0 / 2 ^ 5 % 2) + l.getD 0 0 / 2 ^ 4 % 2) + l.getD 0 0 / 2 ^ 3 % 2) + l.getD 0 0 / 2 ^ 2 % 2) + l.getD 0 0 / 2 ^ 1 % 2) + l.getD 0 0 / 2 ^ 0 % 2 = l.getD 0 0
 rw [show (2 : Int) ^ 7 = 128 by decide, show (2 : Int) ^ 6 = 64 by decide, show (2 : Int) ^ 5 = 32 by decide, show (2 : Int) ^ 4 = 16 by decide, show (2 : Int) ^ 3 = 8 by decide, show (2 : Int) ^ 2 = 4 by decide, show (2 : Int) ^ 1 = 2 by decide, show (2 : Int) ^ 0 = 1 by decide]
 omega
def bstr (l : List Int) : List UInt8 := l.map fun v => UInt8.ofNat v.toNat
theorem bstr_len (l : List Int) : l.length = (bstr l).length := by simp [bstr]
theorem bstr_get {l : List Int} (hl : Bytes l) (j : Nat) (hj : j < (bstr l).length) : u8F l j 0 = .val (.int .u8 ((bstr l)[j].toNat : Int)) := by
 have hj' : j < l.length := by rw [bstr_len]; exact hj
 have := hl.b j
 have e : l.getD j 0 = l[j] := by simp [List.getD, hj']
 unfold u8F
 rw [e] at this ⊢
 have : ((bstr l)[j].toNat : Int) = l[j] := by
   simp only [bstr, List.getElem_map, UInt8.toNat_ofNat']
   omega
 rw [this]
theorem bstr_inj {x y : List Int} (hx : Bytes x) (hy : Bytes y) (h : bstr x = bstr y) : x = y := by
 have hl : x.length = y.length := by rw [bstr_len x, bstr_len y, h]
 refine List.ext_getElem hl fun i h1 h2 => ?_
 have e1 := bstr_get hx i (by rw [← bstr_len]; exact h1)
 have e2 := bstr_get hy i (by rw [← bstr_len]; exact h2)
 have a1 : x.getD i 0 = x[i] := by simp [List.getD, h1]
 have a2 : y.getD i 0 = y[i] := by simp [List.getD, h2]
 unfold u8F at e1 e2
 simp only [D.val.injEq, Value.int.injEq, true_and] at e1 e2
 rw [a1] at e1; rw [a2] at e2
 rw [e1, e2]; simp only [h]
theorem sampleOf_1 (M : List Smp) (x y : Int) : sampleOf (lstN M 1) x y = ⟨x + (M.getD 0 default).t, y + (M.getD 0 default).v⟩ := by
 unfold sampleOf
 rw [if_neg (by rw [lstN_n]; decide), (lstN_t M (by decide)).1, (lstN_t M (by decide)).2, lstN_st, if_neg (by decide)]
 simp only [Nat.sub_self]
 congr 1 <;> omega
theorem sampleOf_2 (M : List Smp) (x y : Int) {k : Nat} (h : 2 ≤ k) : sampleOf (lstN M k) x y = ⟨x + (M.getD (k - 1) default).t + ((M.getD (k - 1) default).t - (M.getD (k - 2) default).t), y + (M.getD (k - 1) default).v⟩ := by
 unfold sampleOf
 rw [if_neg (by rw [lstN_n]; omega), (lstN_t M (by omega)).1, (lstN_t M (by omega)).2, lstN_st, if_pos h]
 congr 1 <;> omega
theorem sfault_snoc {M : List Smp} {s : Smp} (h : faultTo M M.length = 0) (hl : M.length < 120) : sfault (M ++ [s]) = lfault (lstN M M.length) s := by
 unfold sfault
 rw [if_neg (by simp; omega), show (M ++ [s]).length = M.length + 1 by simp, faultTo_snoc M s h]
theorem smpIn_good {M : List Smp} (h : faultTo M M.length = 0) (hl : M.length ≤ 120) : SmpIn M := by
 have key : ∀ k, inRange (M.getD k default).t ∧ inRange (M.getD k default).v := by
   intro k
   by_cases hk : k < M.length
   · obtain ⟨⟨h1, h2⟩, ⟨h3, h4⟩, _⟩ := smp_at h hk
     exact ⟨⟨by omega, by omega⟩, ⟨by omega, by omega⟩⟩
   · have e : M.getD k default = default := by rw [List.getD_eq_getElem?_getD, List.getElem?_eq_none (by omega)]; rfl
     rw [e]; exact ⟨⟨by decide, by decide⟩, ⟨by decide, by decide⟩⟩
 exact ⟨by omega, fun k => (key k).1, fun k => (key k).2⟩
theorem sfault_good {M : List Smp} (h : faultTo M M.length = 0) (hl : M.length ≤ 120) : sfault M = 0 := by
 unfold sfault; rw [if_neg (by omega), h]
theorem bitAt_any (l : List Int) (hl : Bytes l) (i : Nat) (hi : i < 8 * l.length) : Spec Tryd.prog GC 80 [u8V l, SV.i i] [] (fun r ho => r = SV.i (bitB l i) ∧ ho = []) := by
 obtain ⟨hl1, hl2⟩ := hl
 have hb := hl2 (i / 8)
 have hd := byte_div hb.1 hb.2 (7 - i % 8)
 have hp : (0 : Int) < (2 ^ (7 - i % 8)) := Int.pow_pos (by decide)
 refine start 16 0 Tryd.func80 rfl rfl rfl rfl ?_
 refine r1 <| sT 4 0 1 rfl <| e1 8 rfl <| keep [0, 1] rfl ?_
 refine rd1 rfl ?_
 refine dT 5 8 1 rfl <| dT 6 16 2 rfl ?_
 refine dD 7 24 3 rfl rfl rfl rfl rfl rfl rfl rfl rfl (by omega) ?_
 refine dV 8 32 4 rfl (by constructor <;> omega) ?_
 refine dO 9 40 5 rfl ?_
 refine val 9 (.d (.val (.int .u8 (l.getD (i / 8) 0)))) rfl (by first | rfl | (rw [show ((i : Int) / 8).toNat = i / 8 by omega])) ?_
 refine dT 10 48 6 rfl ?_
 refine val 10 (SV.i (l.getD (i / 8) 0)) rfl (congrArg (fun x => SV.d (D.val (Value.int .i64 x))) (wrap_in ⟨by omega, by omega⟩)) ?_
 refine dT 11 56 7 rfl ?_
 refine dD 12 64 8 rfl rfl rfl rfl rfl rfl rfl rfl rfl (by omega) ?_
 refine dO 13 72 9 rfl ?_
 refine val 13 (SV.i (2 ^ (7 - i % 8))) rfl (congrArg (fun x => SV.d (D.val (Value.int .i64 x))) (shr128b (by omega) (by omega))) ?_
 refine dD 14 80 10 rfl rfl rfl rfl rfl rfl rfl rfl rfl ⟨by omega, by omega, hp⟩ ?_
 refine dD 15 88 11 rfl rfl rfl rfl rfl rfl rfl rfl rfl ⟨by omega, by omega, by omega⟩ ?_
 refine dT 4 96 12 rfl <| de1 104 rfl (by kernel_rfl) <| keep [4] rfl <| W_ret ?_
 exact out1 4 (SV.i (bitB l i)) (π := []) (hout := []) Tryd.results80 rfl rfl rfl rfl trivial ⟨rfl, rfl⟩
theorem refUnf_any (x : Int) (h0 : 0 ≤ x) (h1 : x < 576460752303423488) : Spec Tryd.prog GC 81 [SV.i x] [] (fun r ho => r = SV.tup [SV.i (zUnf x), SV.i 0] ∧ ho = []) := by
 refine start 19 0 Tryd.func81 rfl rfl rfl rfl ?_
 refine r1 <| sT 2 0 1 rfl <| sT 3 8 2 rfl <| e1 16 rfl <| keep [0] rfl <| W_seq <| r1 <| sT 4 16 1 rfl <| sO 5 24 2 rfl <| sT 6 32 3 rfl ?_
 refine ask 6 rfl (fun hg1_6 => ?_) (fun hg1_6 => ?_)
 try simp only [cs, ne_eq] at hg1_6
 refine gF 2 false 6 7 4 rfl rfl <| gF 2 false 6 8 5 rfl rfl <| sT 9 56 6 rfl <| e1 64 rfl <| keep [0, 9] rfl ?_
 refine q1 rfl (fun hc1 => ?_) (fun hc1 => ?_)
 exfalso; simp at hc1; omega
 exact absurd hc1 (by decide)
 try simp only [cs, ne_eq] at hg1_6
 refine gT 2 false 6 4 rfl rfl <| sT 7 40 4 rfl <| gT 2 false 6 5 rfl rfl <| sO 8 48 5 rfl <| sT 9 56 6 rfl <| e1 64 rfl <| keep [0, 9] rfl ?_
 refine q1 rfl (fun hc1 => ?_) (fun hc1 => ?_)
 exfalso; simp at hc1; omega
 try simp only [cs, ne_eq] at hc1
 refine W_skip <| tn <| W_seq <| r1 <| sT 10 64 1 rfl ?_
 refine sD 11 72 2 rfl rfl rfl rfl rfl rfl rfl rfl rfl (by omega) ?_
 refine sO 12 80 3 rfl <| e1 88 rfl <| keep [0, 12] rfl ?_
 refine q1 rfl (fun hc3 => ?_) (fun hc3 => ?_)
 try simp only [cs, ne_eq] at hc3
 refine r1 <| sT 13 88 1 rfl <| sAO 14 96 2 rfl <| sT 15 104 3 rfl ?_
 refine val 15 (SV.i (-(x + 1))) rfl (congrArg (fun x => SV.d (D.val (Value.int .i64 x))) (show IntKind.i64.wrap (0 - (x + 1)) = _ from by rw [Int.zero_sub]; exact wrap_in ⟨by omega, by omega⟩)) ?_
 refine s1as (SV.i (zUnf x)) 16 112 4 rfl rfl rfl rfl rfl rfl (by decide) (congrArg (fun x => SV.d (D.val (Value.int .i64 x))) (tdiv_unf h0 h1 hc3)) ?_
 refine sT 2 120 5 rfl <| sT 3 128 6 rfl <| e1 136 rfl <| keep [2, 3] rfl <| W_ret <| tr ?_
 exact out2 2 3 (SV.i (zUnf x)) (SV.i 0) (π := []) (hout := []) Tryd.results81 rfl rfl rfl rfl rfl rfl trivial ⟨rfl, rfl⟩
 try simp only [cs, ne_eq] at hc3
 refine W_skip <| tn <| r1 <| sT 17 88 1 rfl ?_
 refine sD 18 96 2 rfl rfl rfl rfl rfl rfl rfl rfl rfl (by omega) ?_
 refine sT 2 104 3 rfl <| sT 3 112 4 rfl <| e1 120 rfl <| keep [2, 3] rfl <| W_ret ?_
 exact out2 2 3 (SV.i (zUnf x)) (SV.i 0) (π := []) (hout := []) Tryd.results81 rfl rfl (by show SV.i (x / 2) = SV.i (zUnf x); unfold zUnf; rw [if_neg hc3]) rfl rfl rfl trivial ⟨rfl, rfl⟩
theorem zigAt_any (l : List Int) (hl : Bytes l) (n : Nat) (hn : n ≤ 8 * l.length) : Spec Tryd.prog GC 50 [u8V l, SV.i n] [] (fun r ho => r = SV.tup [SV.i (zgt l n).x, SV.i (zgA l n : Nat), SV.i (zgt l n).e] ∧ ho = []) := by
 have hlb := hl
 obtain ⟨hl1, hl2⟩ := hl
 refine start 73 0 Tryd.func50 rfl rfl rfl rfl ?_
 refine r1 <| sT 4 0 1 rfl <| sT 5 8 2 rfl <| sT 6 16 3 rfl <| e1 24 rfl <| keep [0, 1] rfl <| r1 <| sT 7 24 1 rfl <| e1 32 rfl <| keep [0, 1, 7] rfl <| W_seq <| W_block ?_
 refine loop (α := Nat) 0 (fun k => [(0, u8V l), (1, SV.i (n + (k) : Nat)), (7, SV.i (k))]) (fun k => []) (fun k => (k) ≤ 4 ∧ n + (k) ≤ 8 * l.length ∧ zpre l 4 n 0 = zpre l (4 - (k)) (n + (k)) (k)) (fun k => 4 - (k)) (((0) : Nat)) [] (fun _ => rfl) (show (0) ≤ 4 ∧ n + (0) ≤ 8 * l.length ∧ zpre l 4 n 0 = zpre l (4 - (0)) (n + (0)) (0) from ⟨Nat.zero_le _, hn, rfl⟩) rfl ⟨rfl, rfl, rfl, trivial⟩ trivial (fun k hx => ?_)
 show W _ _ _ ⟨tOf [(0, u8V l), (1, SV.i (n + k : Nat)), (7, SV.i k)], hOf [], 0⟩
 have hx : k ≤ 4 ∧ n + k ≤ 8 * l.length ∧ zpre l 4 n 0 = zpre l (4 - k) (n + k) k := hx
 obtain ⟨hk, hkn, hz⟩ := hx
 refine W_seq <| r1 <| sT 14 0 1 rfl <| sO 15 8 2 rfl <| e1 16 rfl <| keep [0, 1, 7, 15] rfl ?_
 refine q1 rfl (fun hc2 => ?_) (fun hc2 => ?_)
 · skip
   try simp only [cs, ne_eq] at hc2
   refine W_skip <| tn <| W_block <| W_seq <| r1 <| sT 16 16 1 rfl <| sT 17 24 2 rfl <| sO 18 32 3 rfl <| sAO 19 40 4 rfl ?_
   refine sV 20 48 5 rfl (by constructor <;> omega) ?_
   refine e1 56 rfl <| keep [0, 1, 7, 20] rfl ?_
   refine q1 rfl (fun hc3 => ?_) (fun hc3 => ?_)
   try simp only [cs, ne_eq] at hc3
   refine r1 <| sT 4 56 1 rfl <| sT 5 64 2 rfl <| sT 6 72 3 rfl <| e1 80 rfl <| keep [4, 5, 6] rfl <| W_ret <| tr <| br <| tr <| br <| tr ?_
   have hzz := zgt_short (hz.trans (zpre_end l k (n + k) (by omega) (by omega)))
   exact out3 4 5 6 (SV.i (zgt l n).x) (SV.i (zgA l n : Nat)) (SV.i (zgt l n).e) (π := []) (hout := []) Tryd.results50 rfl rfl rfl (by rw [hzz]; rfl) (by unfold zgA; rw [hzz]; rfl) (by rw [hzz]; rfl) rfl rfl trivial ⟨rfl, rfl⟩
   try simp only [cs, ne_eq] at hc3
   refine W_skip <| tn <| r1 <| sT 21 56 1 rfl <| sT 22 64 2 rfl ?_
   refine c1 (bitAt_any l hlb (n + k) (by omega)) [] [] 23 72 3 rfl rfl rfl rfl rfl rfl rfl rfl Tryd.func80 rfl rfl rfl rfl trivial rfl rfl ?_
   refine sT 8 80 4 rfl <| e1 88 rfl <| keep [0, 1, 7, 8] rfl <| r1 <| sT 24 88 1 rfl <| sAO 25 96 2 rfl <| sT 1 104 3 rfl <| e1 112 rfl <| keep [0, 1, 7, 8] rfl <| W_seq <| r1 <| sT 26 112 1 rfl <| sO 27 120 2 rfl <| e1 128 rfl <| keep [0, 1, 7, 27] rfl ?_
   refine q1 rfl (fun hc7 => ?_) (fun hc7 => ?_)
   · skip
     try simp only [cs, ne_eq] at hc7
     refine W_exit <| tx <| bo rfl <| tx <| bx <| tn ?_
     obtain ⟨q, m, hq, hz, hm, hek, hem⟩ : ∃ q m : Nat, q ≤ 4 ∧ zpre l 4 n 0 = (true, q, m) ∧ m ≤ 8 * l.length ∧ (k : Int) = q ∧ ((n + k : Nat) : Int) + 1 = m := ⟨k, n + k + 1, by omega, hz.trans (zpre_zero l k (n + k) (by omega) (by omega) hc7), by omega, rfl, by omega⟩
     refine cval 7 (SV.i q) rfl (by rw [hek]) ?_
     refine cval 1 (SV.i m) rfl (by rw [hem]) ?_
     have h59 := clB_59 q
     refine r1 ?_
     refine sLit 1 (intF wL) 30 128 1 rfl rfl rfl rfl rfl rfl rfl rfl rfl (by intro i c hi hc; obtain rfl : c = 0 := (by omega); rcases (show i = 0 ∨ i = 1 ∨ i = 2 ∨ i = 3 ∨ i = 4 by omega) with rfl | rfl | rfl | rfl | rfl <;> rfl) ?_
     refine sT 31 136 2 rfl ?_
     refine sV 32 144 3 rfl (by constructor <;> omega) ?_
     refine sO 33 152 4 rfl ?_
     refine val 33 (SV.i (clB q)) rfl (congrArg (fun x => SV.d (D.val (Value.int .i64 x))) (by rw [Int.toNat_natCast]; exact wL_get hq)) ?_
     refine sT 9 160 5 rfl <| e1 168 rfl <| keep [0, 1, 7, 9] rfl <| W_seq <| r1 <| sT 34 168 1 rfl <| sT 35 176 2 rfl <| sAO 36 184 3 rfl <| sT 37 192 4 rfl <| sO 38 200 5 rfl <| sAO 39 208 6 rfl <| sO 40 216 7 rfl <| e1 224 rfl <| keep [0, 1, 7, 9, 40] rfl ?_
     refine q1 rfl (fun hc10 => ?_) (fun hc10 => ?_)
     try simp only [cs, ne_eq] at hc10
     refine r1 <| sT 4 224 1 rfl <| sT 5 232 2 rfl <| sT 6 240 3 rfl <| e1 248 rfl <| keep [4, 5, 6] rfl <| W_ret <| tr ?_
     have hzz := zgt_short2 hz (by omega)
     exact out3 4 5 6 (SV.i (zgt l n).x) (SV.i (zgA l n : Nat)) (SV.i (zgt l n).e) (π := []) (hout := []) Tryd.results50 rfl rfl rfl (by rw [hzz]; rfl) (by unfold zgA; rw [hzz]; rfl) (by rw [hzz]; rfl) rfl rfl trivial ⟨rfl, rfl⟩
     try simp only [cs, ne_eq] at hc10
     refine W_skip <| tn <| r1 <| sT 10 224 1 rfl <| e1 232 rfl <| keep [0, 1, 7, 9, 10] rfl <| W_seq <| r1 <| sT 11 232 1 rfl <| e1 240 rfl <| keep [0, 1, 7, 9, 10, 11] rfl <| W_block ?_
     refine loop (α := Nat) 0 (fun j => [(0, u8V l), (1, SV.i m), (7, SV.i q), (9, SV.i (clB q)), (10, SV.i (numB l m (j))), (11, SV.i (j))]) (fun j => []) (fun j => (j) ≤ clB q) (fun j => clB q - (j)) (((0) : Nat)) [] (fun _ => rfl) (show (0) ≤ clB q from (Nat.zero_le _)) rfl ⟨rfl, rfl, rfl, rfl, rfl, rfl, trivial⟩ trivial (fun j hx => ?_)
     show W _ _ _ ⟨tOf [(0, u8V l), (1, SV.i m), (7, SV.i q), (9, SV.i (clB q)), (10, SV.i (numB l m j)), (11, SV.i j)], hOf [], 0⟩
     have hx : j ≤ clB q := hx
     refine W_seq <| r1 <| sT 41 0 1 rfl <| sT 42 8 2 rfl <| sO 43 16 3 rfl <| e1 24 rfl <| keep [0, 1, 7, 9, 10, 11, 43] rfl ?_
     refine q1 rfl (fun hc14 => ?_) (fun hc14 => ?_)
     try simp only [cs, ne_eq] at hc14
     have hnum := num59 l m (show j + 1 ≤ 59 by omega)
     have hnum0 := num59 l m (show j ≤ 59 by omega)
     have hbb := bitB_bd l (m + j)
     have hrec : numB l m (j + 1) = 2 * numB l m j + bitB l (m + j) := rfl
     refine W_skip <| tn <| W_seq <| W_block ?_
     refine r0 ?_
     refine sT 46 24 1 rfl <| sAO 47 32 2 rfl <| sT 48 40 3 rfl <| sT 49 48 4 rfl <| sT 50 56 5 rfl <| sAO 51 64 6 rfl ?_
     refine c1 (bitAt_any l hlb (m + j) (by omega)) [] [] 52 72 7 rfl rfl rfl rfl rfl rfl rfl rfl Tryd.func80 rfl rfl rfl rfl trivial rfl rfl ?_
     refine sAO 53 80 8 rfl <| sT 10 88 9 rfl <| e1 96 rfl <| bn <| tn ?_
     refine r0 ?_
     refine sT 44 96 1 rfl <| sAO 45 104 2 rfl <| sT 11 112 3 rfl <| e1 120 rfl <| tn ?_
     exact again ((j + 1 : Nat)) [] (show (j + 1) ≤ clB q from (by omega)) (show clB q - (j + 1) < clB q - j from (by omega)) rfl ⟨rfl, rfl, rfl, rfl, rfl, rfl, trivial⟩ trivial
     try simp only [cs, ne_eq] at hc14
     refine W_exit <| tx <| tx <| bx <| tn <| W_seq ?_
     obtain rfl : j = clB q := (by omega)
     have hX := num59 l m h59
     have hX2 := (numB_bd l m (clB q)).2
     refine r1 <| sT 54 24 1 rfl <| sO 55 32 2 rfl <| sT 56 40 3 rfl ?_
     refine ask 56 rfl (fun hg17_56 => ?_) (fun hg17_56 => ?_)
     · skip
       try simp only [cs, ne_eq] at hg17_56
       refine gT 2 true 56 4 rfl rfl <| sT 57 48 4 rfl <| gT 2 true 56 5 rfl rfl ?_
       refine sLit 1 (intF lowL) 58 56 5 rfl rfl rfl rfl rfl rfl rfl rfl rfl (by intro i c hi hc; obtain rfl : c = 0 := (by omega); rcases (show i = 0 ∨ i = 1 ∨ i = 2 ∨ i = 3 ∨ i = 4 by omega) with rfl | rfl | rfl | rfl | rfl <;> rfl) ?_
       refine gT 2 true 56 6 rfl rfl <| sT 59 64 6 rfl <| gT 2 true 56 7 rfl rfl ?_
       refine sV 60 72 7 rfl (by constructor <;> omega) ?_
       refine gT 2 true 56 8 rfl rfl <| sO 61 80 8 rfl ?_
       refine val 61 (SV.i (lowL.getD q 0)) rfl (congrArg (fun x => SV.d (D.val (Value.int .i64 x))) (by rw [Int.toNat_natCast])) ?_
       refine gT 2 true 56 9 rfl rfl <| sO 62 88 9 rfl <| sT 63 96 10 rfl <| e1 104 rfl <| keep [1, 9, 10, 63] rfl ?_
       refine q1 rfl (fun hc17 => ?_) (fun hc17 => ?_)
       try simp only [cs, ne_eq] at hc17
       refine r1 <| sT 4 104 1 rfl <| sT 5 112 2 rfl <| sT 6 120 3 rfl <| e1 128 rfl <| keep [4, 5, 6] rfl <| W_ret <| tr ?_
       have hzz := zgt_form hz (by omega) (fun e => ((cls_low hq hX.1 hX2).1 e) ⟨by omega, by assumption⟩)
       exact out3 4 5 6 (SV.i (zgt l n).x) (SV.i (zgA l n : Nat)) (SV.i (zgt l n).e) (π := []) (hout := []) Tryd.results50 rfl rfl rfl (by rw [hzz]; rfl) (by unfold zgA; rw [hzz]; rfl) (by rw [hzz]; rfl) rfl rfl trivial ⟨rfl, rfl⟩
       try simp only [cs, ne_eq] at hc17
       refine W_skip <| tn ?_
       have hcl : cls (numB l m (clB q)) = q := (cls_low hq hX.1 hX2).2 (by first | omega | (intro h; have := h.2; omega))
       refine r1 <| sT 65 104 1 rfl ?_
       refine c1 (refUnf_any (numB l m (clB q)) hX.1 hX.2) [] [] 66 112 2 rfl rfl rfl rfl rfl rfl rfl rfl Tryd.func81 rfl rfl rfl rfl trivial rfl rfl ?_
       refine sT 64 120 3 rfl <| sT 67 128 4 rfl <| sT 68 136 5 rfl <| sT 12 144 6 rfl <| sT 13 152 7 rfl <| e1 160 rfl <| keep [1, 9, 12] rfl <| r1 <| sT 69 160 1 rfl <| sT 70 168 2 rfl <| sT 71 176 3 rfl <| sAO 72 184 4 rfl <| sT 4 192 5 rfl <| sT 5 200 6 rfl <| sT 6 208 7 rfl <| e1 216 rfl ?_
       refine keep [4, 5, 6] rfl <| W_ret ?_
       have hzz := zgt_ok hz (by omega) hcl
       exact out3 4 5 6 (SV.i (zgt l n).x) (SV.i (zgA l n : Nat)) (SV.i (zgt l n).e) (π := []) (hout := []) Tryd.results50 rfl rfl rfl (by rw [hzz]; rfl) (by unfold zgA; rw [hzz]; rfl) (by rw [hzz]; rfl) rfl rfl trivial ⟨rfl, rfl⟩
     try simp only [cs, ne_eq] at hg17_56
     refine gF 2 true 56 57 4 rfl rfl <| gF 2 true 56 58 5 rfl rfl <| gF 2 true 56 59 6 rfl rfl <| gF 2 true 56 60 7 rfl rfl <| gF 2 true 56 61 8 rfl rfl <| gF 2 true 56 62 9 rfl rfl <| sT 63 96 10 rfl <| e1 104 rfl <| keep [1, 9, 10, 63] rfl ?_
     refine q1 rfl (fun hc17 => ?_) (fun hc17 => ?_)
     exact absurd hc17 (by decide)
     try simp only [cs, ne_eq] at hc17
     refine W_skip <| tn ?_
     have hcl : cls (numB l m (clB q)) = q := (cls_low hq hX.1 hX2).2 (by first | omega | (intro h; have := h.2; omega))
     refine r1 <| sT 65 104 1 rfl ?_
     refine c1 (refUnf_any (numB l m (clB q)) hX.1 hX.2) [] [] 66 112 2 rfl rfl rfl rfl rfl rfl rfl rfl Tryd.func81 rfl rfl rfl rfl trivial rfl rfl ?_
     refine sT 64 120 3 rfl <| sT 67 128 4 rfl <| sT 68 136 5 rfl <| sT 12 144 6 rfl <| sT 13 152 7 rfl <| e1 160 rfl <| keep [1, 9, 12] rfl <| r1 <| sT 69 160 1 rfl <| sT 70 168 2 rfl <| sT 71 176 3 rfl <| sAO 72 184 4 rfl <| sT 4 192 5 rfl <| sT 5 200 6 rfl <| sT 6 208 7 rfl <| e1 216 rfl ?_
     refine keep [4, 5, 6] rfl <| W_ret ?_
     have hzz := zgt_ok hz (by omega) hcl
     exact out3 4 5 6 (SV.i (zgt l n).x) (SV.i (zgA l n : Nat)) (SV.i (zgt l n).e) (π := []) (hout := []) Tryd.results50 rfl rfl rfl (by rw [hzz]; rfl) (by unfold zgA; rw [hzz]; rfl) (by rw [hzz]; rfl) rfl rfl trivial ⟨rfl, rfl⟩
   try simp only [cs, ne_eq] at hc7
   refine W_skip <| tn ?_
   refine r0 ?_
   refine sT 28 128 1 rfl <| sAO 29 136 2 rfl <| sT 7 144 3 rfl <| e1 152 rfl <| bn <| tn ?_
   exact again ((k + 1 : Nat)) [] (show (k + 1) ≤ 4 ∧ n + (k + 1) ≤ 8 * l.length ∧ zpre l 4 n 0 = zpre l (4 - (k + 1)) (n + (k + 1)) (k + 1) from ⟨by omega, by omega, hz.trans (zpre_one l k (n + k) (by omega) (by omega) hc7)⟩) (show 4 - (k + 1) < 4 - k from (by omega)) rfl ⟨rfl, rfl, rfl, trivial⟩ trivial
 try simp only [cs, ne_eq] at hc2
 refine W_exit <| tx <| tx <| bx <| tn ?_
 obtain ⟨q, m, hq, hz, hm, hek, hem⟩ : ∃ q m : Nat, q ≤ 4 ∧ zpre l 4 n 0 = (true, q, m) ∧ m ≤ 8 * l.length ∧ (k : Int) = q ∧ ((n + k : Nat) : Int) = m := ⟨4, n + k, by omega, by rw [hz, show k = 4 by omega]; rfl, hkn, by omega, rfl⟩
 refine cval 7 (SV.i q) rfl (by rw [hek]) ?_
 refine cval 1 (SV.i m) rfl (by rw [hem]) ?_
 have h59 := clB_59 q
 refine r1 ?_
 refine sLit 1 (intF wL) 30 16 1 rfl rfl rfl rfl rfl rfl rfl rfl rfl (by intro i c hi hc; obtain rfl : c = 0 := (by omega); rcases (show i = 0 ∨ i = 1 ∨ i = 2 ∨ i = 3 ∨ i = 4 by omega) with rfl | rfl | rfl | rfl | rfl <;> rfl) ?_
 refine sT 31 24 2 rfl ?_
 refine sV 32 32 3 rfl (by constructor <;> omega) ?_
 refine sO 33 40 4 rfl ?_
 refine val 33 (SV.i (clB q)) rfl (congrArg (fun x => SV.d (D.val (Value.int .i64 x))) (by rw [Int.toNat_natCast]; exact wL_get hq)) ?_
 refine sT 9 48 5 rfl <| e1 56 rfl <| keep [0, 1, 7, 9] rfl <| W_seq <| r1 <| sT 34 56 1 rfl <| sT 35 64 2 rfl <| sAO 36 72 3 rfl <| sT 37 80 4 rfl <| sO 38 88 5 rfl <| sAO 39 96 6 rfl <| sO 40 104 7 rfl <| e1 112 rfl <| keep [0, 1, 7, 9, 40] rfl ?_
 refine q1 rfl (fun hc10 => ?_) (fun hc10 => ?_)
 try simp only [cs, ne_eq] at hc10
 refine r1 <| sT 4 112 1 rfl <| sT 5 120 2 rfl <| sT 6 128 3 rfl <| e1 136 rfl <| keep [4, 5, 6] rfl <| W_ret <| tr ?_
 have hzz := zgt_short2 hz (by omega)
 exact out3 4 5 6 (SV.i (zgt l n).x) (SV.i (zgA l n : Nat)) (SV.i (zgt l n).e) (π := []) (hout := []) Tryd.results50 rfl rfl rfl (by rw [hzz]; rfl) (by unfold zgA; rw [hzz]; rfl) (by rw [hzz]; rfl) rfl rfl trivial ⟨rfl, rfl⟩
 try simp only [cs, ne_eq] at hc10
 refine W_skip <| tn <| r1 <| sT 10 112 1 rfl <| e1 120 rfl <| keep [0, 1, 7, 9, 10] rfl <| W_seq <| r1 <| sT 11 120 1 rfl <| e1 128 rfl <| keep [0, 1, 7, 9, 10, 11] rfl <| W_block ?_
 refine loop (α := Nat) 0 (fun j => [(0, u8V l), (1, SV.i m), (7, SV.i q), (9, SV.i (clB q)), (10, SV.i (numB l m (j))), (11, SV.i (j))]) (fun j => []) (fun j => (j) ≤ clB q) (fun j => clB q - (j)) (((0) : Nat)) [] (fun _ => rfl) (show (0) ≤ clB q from (Nat.zero_le _)) rfl ⟨rfl, rfl, rfl, rfl, rfl, rfl, trivial⟩ trivial (fun j hx => ?_)
 show W _ _ _ ⟨tOf [(0, u8V l), (1, SV.i m), (7, SV.i q), (9, SV.i (clB q)), (10, SV.i (numB l m j)), (11, SV.i j)], hOf [], 0⟩
 have hx : j ≤ clB q := hx
 refine W_seq <| r1 <| sT 41 0 1 rfl <| sT 42 8 2 rfl <| sO 43 16 3 rfl <| e1 24 rfl <| keep [0, 1, 7, 9, 10, 11, 43] rfl ?_
 refine q1 rfl (fun hc14 => ?_) (fun hc14 => ?_)
 try simp only [cs, ne_eq] at hc14
 have hnum := num59 l m (show j + 1 ≤ 59 by omega)
 have hnum0 := num59 l m (show j ≤ 59 by omega)
 have hbb := bitB_bd l (m + j)
 have hrec : numB l m (j + 1) = 2 * numB l m j + bitB l (m + j) := rfl
 refine W_skip <| tn <| W_seq <| W_block ?_
 refine r0 ?_
 refine sT 46 24 1 rfl <| sAO 47 32 2 rfl <| sT 48 40 3 rfl <| sT 49 48 4 rfl <| sT 50 56 5 rfl <| sAO 51 64 6 rfl ?_
 refine c1 (bitAt_any l hlb (m + j) (by omega)) [] [] 52 72 7 rfl rfl rfl rfl rfl rfl rfl rfl Tryd.func80 rfl rfl rfl rfl trivial rfl rfl ?_
 refine sAO 53 80 8 rfl <| sT 10 88 9 rfl <| e1 96 rfl <| bn <| tn ?_
 refine r0 ?_
 refine sT 44 96 1 rfl <| sAO 45 104 2 rfl <| sT 11 112 3 rfl <| e1 120 rfl <| tn ?_
 exact again ((j + 1 : Nat)) [] (show (j + 1) ≤ clB q from (by omega)) (show clB q - (j + 1) < clB q - j from (by omega)) rfl ⟨rfl, rfl, rfl, rfl, rfl, rfl, trivial⟩ trivial
 try simp only [cs, ne_eq] at hc14
 refine W_exit <| tx <| tx <| bx <| tn <| W_seq ?_
 obtain rfl : j = clB q := (by omega)
 have hX := num59 l m h59
 have hX2 := (numB_bd l m (clB q)).2
 refine r1 <| sT 54 24 1 rfl <| sO 55 32 2 rfl <| sT 56 40 3 rfl ?_
 refine ask 56 rfl (fun hg17_56 => ?_) (fun hg17_56 => ?_)
 · skip
   try simp only [cs, ne_eq] at hg17_56
   refine gT 2 true 56 4 rfl rfl <| sT 57 48 4 rfl <| gT 2 true 56 5 rfl rfl ?_
   refine sLit 1 (intF lowL) 58 56 5 rfl rfl rfl rfl rfl rfl rfl rfl rfl (by intro i c hi hc; obtain rfl : c = 0 := (by omega); rcases (show i = 0 ∨ i = 1 ∨ i = 2 ∨ i = 3 ∨ i = 4 by omega) with rfl | rfl | rfl | rfl | rfl <;> rfl) ?_
   refine gT 2 true 56 6 rfl rfl <| sT 59 64 6 rfl <| gT 2 true 56 7 rfl rfl ?_
   refine sV 60 72 7 rfl (by constructor <;> omega) ?_
   refine gT 2 true 56 8 rfl rfl <| sO 61 80 8 rfl ?_
   refine val 61 (SV.i (lowL.getD q 0)) rfl (congrArg (fun x => SV.d (D.val (Value.int .i64 x))) (by rw [Int.toNat_natCast])) ?_
   refine gT 2 true 56 9 rfl rfl <| sO 62 88 9 rfl <| sT 63 96 10 rfl <| e1 104 rfl <| keep [1, 9, 10, 63] rfl ?_
   refine q1 rfl (fun hc17 => ?_) (fun hc17 => ?_)
   try simp only [cs, ne_eq] at hc17
   refine r1 <| sT 4 104 1 rfl <| sT 5 112 2 rfl <| sT 6 120 3 rfl <| e1 128 rfl <| keep [4, 5, 6] rfl <| W_ret <| tr ?_
   have hzz := zgt_form hz (by omega) (fun e => ((cls_low hq hX.1 hX2).1 e) ⟨by omega, by assumption⟩)
   exact out3 4 5 6 (SV.i (zgt l n).x) (SV.i (zgA l n : Nat)) (SV.i (zgt l n).e) (π := []) (hout := []) Tryd.results50 rfl rfl rfl (by rw [hzz]; rfl) (by unfold zgA; rw [hzz]; rfl) (by rw [hzz]; rfl) rfl rfl trivial ⟨rfl, rfl⟩
   try simp only [cs, ne_eq] at hc17
   refine W_skip <| tn ?_
   have hcl : cls (numB l m (clB q)) = q := (cls_low hq hX.1 hX2).2 (by first | omega | (intro h; have := h.2; omega))
   refine r1 <| sT 65 104 1 rfl ?_
   refine c1 (refUnf_any (numB l m (clB q)) hX.1 hX.2) [] [] 66 112 2 rfl rfl rfl rfl rfl rfl rfl rfl Tryd.func81 rfl rfl rfl rfl trivial rfl rfl ?_
   refine sT 64 120 3 rfl <| sT 67 128 4 rfl <| sT 68 136 5 rfl <| sT 12 144 6 rfl <| sT 13 152 7 rfl <| e1 160 rfl <| keep [1, 9, 12] rfl <| r1 <| sT 69 160 1 rfl <| sT 70 168 2 rfl <| sT 71 176 3 rfl <| sAO 72 184 4 rfl <| sT 4 192 5 rfl <| sT 5 200 6 rfl <| sT 6 208 7 rfl <| e1 216 rfl ?_
   refine keep [4, 5, 6] rfl <| W_ret ?_
   have hzz := zgt_ok hz (by omega) hcl
   exact out3 4 5 6 (SV.i (zgt l n).x) (SV.i (zgA l n : Nat)) (SV.i (zgt l n).e) (π := []) (hout := []) Tryd.results50 rfl rfl rfl (by rw [hzz]; rfl) (by unfold zgA; rw [hzz]; rfl) (by rw [hzz]; rfl) rfl rfl trivial ⟨rfl, rfl⟩
 try simp only [cs, ne_eq] at hg17_56
 refine gF 2 true 56 57 4 rfl rfl <| gF 2 true 56 58 5 rfl rfl <| gF 2 true 56 59 6 rfl rfl <| gF 2 true 56 60 7 rfl rfl <| gF 2 true 56 61 8 rfl rfl <| gF 2 true 56 62 9 rfl rfl <| sT 63 96 10 rfl <| e1 104 rfl <| keep [1, 9, 10, 63] rfl ?_
 refine q1 rfl (fun hc17 => ?_) (fun hc17 => ?_)
 exact absurd hc17 (by decide)
 try simp only [cs, ne_eq] at hc17
 refine W_skip <| tn ?_
 have hcl : cls (numB l m (clB q)) = q := (cls_low hq hX.1 hX2).2 (by first | omega | (intro h; have := h.2; omega))
 refine r1 <| sT 65 104 1 rfl ?_
 refine c1 (refUnf_any (numB l m (clB q)) hX.1 hX.2) [] [] 66 112 2 rfl rfl rfl rfl rfl rfl rfl rfl Tryd.func81 rfl rfl rfl rfl trivial rfl rfl ?_
 refine sT 64 120 3 rfl <| sT 67 128 4 rfl <| sT 68 136 5 rfl <| sT 12 144 6 rfl <| sT 13 152 7 rfl <| e1 160 rfl <| keep [1, 9, 12] rfl <| r1 <| sT 69 160 1 rfl <| sT 70 168 2 rfl <| sT 71 176 3 rfl <| sAO 72 184 4 rfl <| sT 4 192 5 rfl <| sT 5 200 6 rfl <| sT 6 208 7 rfl <| e1 216 rfl ?_
 refine keep [4, 5, 6] rfl <| W_ret ?_
 have hzz := zgt_ok hz (by omega) hcl
 exact out3 4 5 6 (SV.i (zgt l n).x) (SV.i (zgA l n : Nat)) (SV.i (zgt l n).e) (π := []) (hout := []) Tryd.results50 rfl rfl rfl (by rw [hzz]; rfl) (by unfold zgA; rw [hzz]; rfl) (by rw [hzz]; rfl) rfl rfl trivial ⟨rfl, rfl⟩
theorem refSame_any (x y : List Int) (hx : Bytes x) (hy : Bytes y) : Spec Tryd.prog GC 51 [u8V x, u8V y] [] (fun r ho => r = SV.b (decide (x = y)) ∧ ho = []) := by
 refine start 10 0 Tryd.func51 rfl rfl rfl rfl ?_
 refine r1 <| sT 4 0 1 rfl <| e1 8 rfl <| keep [0, 1] rfl <| r1 <| sT 5 8 1 rfl ?_
 refine sStr (bstr x) 6 16 2 rfl rfl rfl rfl rfl rfl rfl rfl rfl rfl (bstr_len x) (bstr_get hx) ?_
 refine sT 7 24 3 rfl ?_
 refine sStr (bstr y) 8 32 4 rfl rfl rfl rfl rfl rfl rfl rfl rfl rfl (bstr_len y) (bstr_get hy) ?_
 refine sO 9 40 5 rfl <| sT 4 48 6 rfl <| e1 56 rfl <| keep [4] rfl <| W_ret ?_
 exact out1 4 (SV.b (decide (x = y))) (π := []) (hout := []) Tryd.results51 rfl (by show SV.b _ = SV.b _; refine congrArg SV.b (Bool.eq_iff_iff.2 ?_); simp only [decide_eq_true_eq, beq_iff_eq]; exact ⟨fun h => bstr_inj hx hy (by simpa using h), fun h => by rw [h]⟩) rfl rfl trivial ⟨rfl, rfl⟩
theorem sfault_own (l : List Smp) (hin : l.length ≤ 1000000) : Spec Tryd.prog GC 36 [.sl 0 0 l.length] [.rows 67 2 l.length (smpF l)] (fun r ho => r = SV.i (sfault l) ∧ ho = [some (.rows 67 2 l.length (smpF l))]) := by
 refine start 39 1 Tryd.func36 rfl rfl rfl rfl ?_
 refine r1 <| sT 2 1 1 rfl <| e1 9 rfl <| keep [0] rfl <| W_seq <| r1 <| sT 5 9 1 rfl <| sO 6 17 2 rfl <| sO 7 25 3 rfl <| e1 33 rfl <| keep [0, 7] rfl ?_
 refine q1 rfl (fun hc1 => ?_) (fun hc1 => ?_)
 try simp only [cs, ne_eq] at hc1
 refine r1 <| sT 2 33 1 rfl <| e1 41 rfl <| keep [2] rfl <| W_ret <| tr ?_
 exact out1 2 (SV.i (sfault l)) (π := [0]) (hout := [some (.rows 67 2 l.length (smpF l))]) Tryd.results36 rfl (by unfold sfault; rw [if_pos (by omega)]; rfl) rfl rfl ⟨rfl, trivial⟩ ⟨rfl, rfl⟩
 try simp only [cs, ne_eq] at hc1
 refine W_skip <| tn <| W_seq <| r1 <| sT 8 33 1 rfl <| sO 9 41 2 rfl <| sT 10 49 3 rfl <| e1 57 rfl <| keep [0, 8, 9, 10] rfl <| W_block ?_
 have hl2 : l.length ≤ 120 := (by omega)
 refine loop (α := Nat) 1 (fun k => [(0, .sl 0 0 l.length), (8, .sl 0 0 l.length), (9, SV.i l.length), (10, SV.i (k))]) (fun k => [some (.rows 67 2 l.length (smpF l))]) (fun k => (k) ≤ l.length ∧ faultTo l (k) = 0) (fun k => l.length - (k)) (((0) : Nat)) [0] (fun _ => rfl) (show (0) ≤ l.length ∧ faultTo l (0) = 0 from ⟨Nat.zero_le _, rfl⟩) rfl ⟨rfl, rfl, rfl, rfl, trivial⟩ ⟨rfl, trivial⟩ (fun k hx => ?_)
 show W _ _ _ ⟨tOf [(0, .sl 0 0 l.length), (8, .sl 0 0 l.length), (9, SV.i l.length), (10, SV.i k)], hOf [some (.rows 67 2 l.length (smpF l))], 1⟩
 have hx : k ≤ l.length ∧ faultTo l k = 0 := hx
 obtain ⟨hk, hf⟩ := hx
 refine r1 <| sO 11 1 1 rfl <| e1 9 rfl <| keep [0, 8, 9, 10, 11] rfl <| W_seq ?_
 refine q1 rfl (fun hc4 => ?_) (fun hc4 => ?_)
 · skip
   try simp only [cs, ne_eq] at hc4
   refine W_skip <| tn <| W_seq <| W_block <| r1 <| sT 12 9 1 rfl <| sO 13 17 2 rfl <| sO 14 25 3 rfl ?_
   refine val 14 (smpS (l.getD k default)) rfl (by first | rfl | (simp only [Nat.zero_add, Int.toNat_natCast]; rfl)) ?_
   refine sT 4 33 4 rfl <| sT 3 41 5 rfl <| s0O 49 6 rfl rfl rfl rfl rfl <| e1 57 rfl <| keep [0, 3, 4, 8, 9, 10] rfl <| W_seq <| r1 <| sT 15 57 1 rfl <| sO 16 65 2 rfl ?_
   refine c1 (inb_any (l.getD k default).t) [] [] 17 73 3 rfl rfl rfl rfl rfl rfl rfl rfl Tryd.func76 rfl rfl rfl rfl trivial rfl rfl ?_
   refine sT 18 81 4 rfl <| sT 19 89 5 rfl ?_
   refine ask 19 rfl (fun hg6_19 => ?_) (fun hg6_19 => ?_)
   try simp only [cs, ne_eq] at hg6_19
   refine gF 4 false 19 20 6 rfl rfl <| gF 4 false 19 21 7 rfl rfl <| gF 4 false 19 22 8 rfl rfl <| gF 4 false 19 23 9 rfl rfl <| sT 24 129 10 rfl <| e1 137 rfl <| keep [0, 3, 4, 8, 9, 10, 24] rfl ?_
   refine q1 rfl (fun hc6 => ?_) (fun hc6 => ?_)
   try simp only [cs, ne_eq] at hc6
   refine r1 <| sT 2 137 1 rfl <| e1 145 rfl <| keep [2] rfl <| W_ret <| tr <| br <| tr <| tr <| br <| tr ?_
   exact out1 2 (SV.i (sfault l)) (π := [0]) (hout := [some (.rows 67 2 l.length (smpF l))]) Tryd.results36 rfl (by unfold sfault; rw [if_neg (by omega)]; have hlf : lfault (lstN l k) (l.getD k default) = 11 := (by unfold lfault; rw [if_neg (by rintro ⟨g1, g2⟩; simp_all)]); rw [faultTo_at (by omega) hf (by rw [hlf]; decide), hlf]; rfl) rfl rfl ⟨rfl, trivial⟩ ⟨rfl, rfl⟩
   exact absurd hc6 (by decide)
   try simp only [cs, ne_eq] at hg6_19
   refine gT 4 false 19 6 rfl rfl <| sT 20 97 6 rfl <| gT 4 false 19 7 rfl rfl <| sO 21 105 7 rfl <| gT 4 false 19 8 rfl rfl ?_
   refine c1 (inb_any (l.getD k default).v) [] [] 22 113 8 rfl rfl rfl rfl rfl rfl rfl rfl Tryd.func76 rfl rfl rfl rfl trivial rfl rfl ?_
   refine gT 4 false 19 9 rfl rfl <| sT 23 121 9 rfl <| sT 24 129 10 rfl <| e1 137 rfl <| keep [0, 3, 4, 8, 9, 10, 24] rfl ?_
   refine q1 rfl (fun hc6 => ?_) (fun hc6 => ?_)
   try simp only [cs, ne_eq] at hc6
   refine r1 <| sT 2 137 1 rfl <| e1 145 rfl <| keep [2] rfl <| W_ret <| tr <| br <| tr <| tr <| br <| tr ?_
   exact out1 2 (SV.i (sfault l)) (π := [0]) (hout := [some (.rows 67 2 l.length (smpF l))]) Tryd.results36 rfl (by unfold sfault; rw [if_neg (by omega)]; have hlf : lfault (lstN l k) (l.getD k default) = 11 := (by unfold lfault; rw [if_neg (by rintro ⟨g1, g2⟩; simp_all)]); rw [faultTo_at (by omega) hf (by rw [hlf]; decide), hlf]; rfl) rfl rfl ⟨rfl, trivial⟩ ⟨rfl, rfl⟩
   try simp only [cs, ne_eq] at hc6
   refine W_skip <| tn ?_
   refine rd1 rfl ?_
   refine dT 25 137 1 rfl <| dO 26 145 2 rfl <| dT 27 153 3 rfl ?_
   refine ask 27 rfl (fun hg8_27 => ?_) (fun hg8_27 => ?_)
   · skip
     try simp only [cs, ne_eq] at hg8_27
     refine gT 2 true 27 4 rfl rfl <| dT 28 161 4 rfl <| gT 2 true 27 5 rfl rfl <| dO 29 169 5 rfl <| gT 2 true 27 6 rfl rfl <| dT 30 177 6 rfl <| gT 2 true 27 7 rfl rfl <| dT 31 185 7 rfl <| gT 2 true 27 8 rfl rfl <| dAO 32 193 8 rfl <| gT 2 true 27 9 rfl rfl <| dO 33 201 9 rfl <| gT 2 true 27 10 rfl rfl <| dT 34 209 10 rfl <| gT 2 true 27 11 rfl rfl <| dO 35 217 11 rfl ?_
     refine val 35 (SV.i (l.getD (k - 1) default).t) rfl (by rw [show ((k : Int) - 1).toNat = k - 1 by omega]; show SV.i (l.getD (0 + (k - 1)) default).t = _; rw [Nat.zero_add]) ?_
     refine gT 2 true 27 12 rfl rfl <| dO 36 225 12 rfl <| dT 37 233 13 rfl <| de1 241 rfl (by kernel_rfl) <| keep [0, 8, 9, 10, 37] rfl ?_
     refine q1 rfl (fun hc8 => ?_) (fun hc8 => ?_)
     · skip
       try simp only [cs, ne_eq] at hc8
       refine r1 <| sT 2 241 1 rfl <| e1 249 rfl <| keep [2] rfl <| W_ret <| br <| tr <| tr <| br <| tr ?_
       exact out1 2 (SV.i (sfault l)) (π := [0]) (hout := [some (.rows 67 2 l.length (smpF l))]) Tryd.results36 rfl (by unfold sfault; rw [if_neg (by omega)]; have hlf : lfault (lstN l k) (l.getD k default) = 9 := (by unfold lfault; rw [if_pos (by constructor <;> simp_all), if_pos (by rw [lstN_n, (lstN_t l (by omega)).1]; omega)]); rw [faultTo_at (by omega) hf (by rw [hlf]; decide), hlf]; rfl) rfl rfl ⟨rfl, trivial⟩ ⟨rfl, rfl⟩
     try simp only [cs, ne_eq] at hc8
     refine W_skip <| bn <| tn ?_
     refine r0 ?_
     refine sAO 38 241 1 rfl <| sT 10 249 2 rfl <| e1 257 rfl <| tn ?_
     exact again ((k + 1 : Nat)) [0] (show (k + 1) ≤ l.length ∧ faultTo l (k + 1) = 0 from ⟨by omega, faultTo_step hf (by unfold lfault; rw [if_pos (by constructor <;> simp_all), if_neg (by rw [lstN_n]; rintro ⟨g1, g2⟩; rw [(lstN_t l (by omega)).1] at g2; omega)])⟩) (show l.length - (k + 1) < l.length - k from (by omega)) rfl ⟨rfl, rfl, rfl, rfl, trivial⟩ ⟨rfl, trivial⟩
   try simp only [cs, ne_eq] at hg8_27
   refine gF 2 true 27 28 4 rfl rfl <| gF 2 true 27 29 5 rfl rfl <| gF 2 true 27 30 6 rfl rfl <| gF 2 true 27 31 7 rfl rfl <| gF 2 true 27 32 8 rfl rfl <| gF 2 true 27 33 9 rfl rfl <| gF 2 true 27 34 10 rfl rfl <| gF 2 true 27 35 11 rfl rfl <| gF 2 true 27 36 12 rfl rfl <| dT 37 233 13 rfl <| de1 241 rfl (by kernel_rfl) <| keep [0, 8, 9, 10, 37] rfl ?_
   refine q1 rfl (fun hc8 => ?_) (fun hc8 => ?_)
   exact absurd hc8 (by decide)
   try simp only [cs, ne_eq] at hc8
   refine W_skip <| bn <| tn ?_
   refine r0 ?_
   refine sAO 38 241 1 rfl <| sT 10 249 2 rfl <| e1 257 rfl <| tn ?_
   exact again ((k + 1 : Nat)) [0] (show (k + 1) ≤ l.length ∧ faultTo l (k + 1) = 0 from ⟨by omega, faultTo_step hf (by unfold lfault; rw [if_pos (by constructor <;> simp_all), if_neg (by rw [lstN_n]; rintro ⟨g1, g2⟩; rw [(lstN_t l (by omega)).1] at g2; omega)])⟩) (show l.length - (k + 1) < l.length - k from (by omega)) rfl ⟨rfl, rfl, rfl, rfl, trivial⟩ ⟨rfl, trivial⟩
 try simp only [cs, ne_eq] at hc4
 refine W_exit <| tx <| tx <| bx <| tn <| r1 <| sT 2 9 1 rfl <| e1 17 rfl <| keep [2] rfl <| W_ret ?_
 exact out1 2 (SV.i (sfault l)) (π := [0]) (hout := [some (.rows 67 2 l.length (smpF l))]) Tryd.results36 rfl (by unfold sfault; rw [if_neg (by omega), show l.length = k by omega, hf]; rfl) rfl rfl ⟨rfl, trivial⟩ ⟨rfl, rfl⟩
end Go.Proofs.YtpdojmebloekgaaDoor.Nice.Co
namespace Go.Proofs.YtpdojmebloekgaaDoor.Nice.Co
open Go
set_option linter.unusedVariables false
set_option linter.unusedSimpArgs false
set_option maxRecDepth 100000
set_option maxHeartbeats 4000000
def bl (l : List Int) (n w : Nat) : List Int := (List.range w).map fun i => bitB l (n + i)
theorem bl_len (l : List Int) (n w : Nat) : (bl l n w).length = w := by simp [bl]
theorem bl_bits (l : List Int) (n w : Nat) : AllBits (bl l n w) := by
 intro x hx
 obtain ⟨j, _, rfl⟩ := List.mem_map.1 hx
 exact bitB_bd l _
theorem bl_get (l : List Int) (n w i : Nat) : (bl l n w).getD i 0 = if i < w then bitB l (n + i) else 0 := by
 unfold bl
 by_cases h : i < w
 · rw [if_pos h]; simp [List.getD, h]
 · rw [if_neg h]; simp [List.getD, h]
theorem bl_cat (l : List Int) (n a b : Nat) : bl l n a ++ bl l (n + a) b = bl l n (a + b) := by
 unfold bl
 rw [List.range_add, List.map_append, List.map_map]
 congr 1
 exact List.map_congr_left fun i _ => by show bitB l (n + a + i) = bitB l (n + (a + i)); rw [Nat.add_assoc]
theorem num_bit (l : List Int) (n : Nat) : ∀ w j, j < w → numB l n w / 2 ^ (w - 1 - j) % 2 = bitB l (n + j)
 | 0, j, h => by omega
 | w + 1, j, h => by
   have hb := bitB_bd l (n + w)
   by_cases e : j = w
   · subst e
     rw [show j + 1 - 1 - j = 0 by omega, Int.pow_zero, Int.ediv_one]
     show (2 * numB l n j + bitB l (n + j)) % 2 = _
     omega
   · have ih := num_bit l n w j (by omega)
     rw [show w + 1 - 1 - j = (w - 1 - j) + 1 by omega, Int.pow_succ, Int.mul_comm, ← Int.ediv_ediv_of_nonneg (by decide)]
     show (2 * numB l n w + bitB l (n + w)) / 2 / _ % 2 = _
     rw [show (2 * numB l n w + bitB l (n + w)) / 2 = numB l n w by omega]
     exact ih
theorem bits_num (l : List Int) (n w : Nat) : bitsOf w (numB l n w) = bl l n w := by
 apply List.ext_getElem?
 intro j
 by_cases h : j < w
 · rw [bitsOf_get w j _ h, num_bit l n w j h]; simp [bl, h]
 · rw [List.getElem?_eq_none (by rw [bitsOf_length]; omega), List.getElem?_eq_none (by rw [bl_len]; omega)]
theorem zpre_bits {l : List Int} {n q m : Nat} (hn : n ≤ 8 * l.length) (h : zpre l 4 n 0 = (true, q, m)) : q ≤ 4 ∧ m = n + clW q ∧ bitsOf (clW q) (clH q) = bl l n (clW q) := by
 have hc : clW 0 = 1 ∧ clW 1 = 2 ∧ clW 2 = 3 ∧ clW 3 = 4 ∧ clW 4 = 4 := ⟨rfl, rfl, rfl, rfl, rfl⟩
 have b0 := bitB_bd l n; have b1 := bitB_bd l (n + 1); have b2 := bitB_bd l (n + 2); have b3 := bitB_bd l (n + 3)
 simp only [zpre, Nat.zero_add, Nat.reduceAdd, Nat.add_assoc] at h
 split at h
 · cases h
 split at h
 · next h0 =>
   cases h
   refine ⟨by omega, rfl, ?_⟩
   show [0] = [bitB l (n + 0)]
   rw [Nat.add_zero, h0]
 next e0 =>
 have b0 : bitB l n = 1 := by omega
 split at h
 · cases h
 split at h
 · next h0 =>
   cases h
   refine ⟨by omega, rfl, ?_⟩
   show [1, 0] = [bitB l (n + 0), bitB l (n + 1)]
   rw [Nat.add_zero, b0, h0]
 next e1 =>
 have b1 : bitB l (n + 1) = 1 := by omega
 split at h
 · cases h
 split at h
 · next h0 =>
   cases h
   refine ⟨by omega, rfl, ?_⟩
   show [1, 1, 0] = [bitB l (n + 0), bitB l (n + 1), bitB l (n + 2)]
   rw [Nat.add_zero, b0, b1, h0]
 next e2 =>
 have b2 : bitB l (n + 2) = 1 := by omega
 split at h
 · cases h
 split at h
 · next h0 =>
   cases h
   refine ⟨by omega, rfl, ?_⟩
   show [1, 1, 1, 0] = [bitB l (n + 0), bitB l (n + 1), bitB l (n + 2), bitB l (n + 3)]
   rw [Nat.add_zero, b0, b1, b2, h0]
 next e3 =>
 have b3 : bitB l (n + 3) = 1 := by omega
 cases h
 refine ⟨by omega, rfl, ?_⟩
 show [1, 1, 1, 1] = [bitB l (n + 0), bitB l (n + 1), bitB l (n + 2), bitB l (n + 3)]
 rw [Nat.add_zero, b0, b1, b2, b3]
theorem fold_unf {v : Int} (h : 0 ≤ v) : zFold (zUnf v) = v := by unfold zFold zUnf; repeat' split
                                                                  all_goals omega
theorem zgt_bits {l : List Int} {n : Nat} (hn : n ≤ 8 * l.length) (h : (zgt l n).e = 0) : n ≤ (zgt l n).at' ∧ zbits (zgt l n).x = bl l n ((zgt l n).at' - n) := by
 obtain ⟨f, q, m, hz⟩ : ∃ f q m, zpre l 4 n 0 = (f, q, m) := ⟨_, _, _, rfl⟩
 cases f with
 | false => rw [zgt_short hz] at h; exact absurd h (show ¬ (5 : Int) = 0 by decide)
 | true =>
   by_cases h2 : 8 * l.length < m + clB q
   · rw [zgt_short2 hz h2] at h; exact absurd h (show ¬ (5 : Int) = 0 by decide)
   by_cases h3 : cls (numB l m (clB q)) = q
   · rw [zgt_ok hz h2 h3]
     obtain ⟨hq, hm, hb⟩ := zpre_bits hn hz
     have hX := num59 l m (clB_59 q)
     refine ⟨by simp only []; omega, ?_⟩
     show zbits (zUnf (numB l m (clB q))) = bl l n (m + clB q - n)
     unfold zbits
     rw [fold_unf hX.1, h3, hb, bits_num, hm, bl_cat]
     congr 1; omega
   · rw [zgt_form hz h2 h3] at h; exact absurd h (show ¬ (4 : Int) = 0 by decide)
theorem numsN_pre (M : List Smp) (s : Smp) : ∀ k, k ≤ M.length → numsN (M ++ [s]) k = numsN M k
 | 0, _ => rfl
 | k + 1, h => by
   rw [numsN_succ, numsN_succ, numsN_pre M s k (by omega), lstN_pre M s k (by omega)]
   have : (M ++ [s]).getD k default = M.getD k default := by simp only [List.getD]; rw [List.getElem?_append_left (by omega)]
   rw [this]
theorem c_sample (a : Lst) (x y : Int) : cT a (sampleOf a x y) = x ∧ cV a (sampleOf a x y) = y := by
 unfold cT cV sampleOf
 by_cases h : a.n = 0
 · rw [if_pos h, if_pos h, if_pos h]; exact ⟨rfl, rfl⟩
 · rw [if_neg h, if_neg h, if_neg h]; exact ⟨by simp only []; omega, by simp only []; omega⟩
theorem decS_bits {l : List Int} (h0 : l.length ≠ 0) : ∀ k, (decS l k).e = 0 → (decS l k).M.length = k ∧ 8 ≤ (decS l k).n ∧ (decS l k).n ≤ 8 * l.length ∧ faultTo (decS l k).M k = 0 ∧ (numsN (decS l k).M k).flatMap zbits = bl l 8 ((decS l k).n - 8)
 | 0, _ => ⟨rfl, Nat.le_refl _, by show 8 ≤ _; omega, rfl, rfl⟩
 | k + 1, h => by
   have hp : (decS l k).e = 0 := by
     refine Decidable.by_contra fun e => ?_
     have : decS l (k + 1) = decS l k := by show decStep l k (decS l k) = _; unfold decStep; rw [if_pos e]
     rw [this] at h; exact e h
   obtain ⟨i1, i2, i3, i4, i5⟩ := decS_bits h0 k hp
   obtain ⟨M, n, e, hd⟩ : ∃ M n e, decS l k = ⟨M, n, e⟩ := ⟨_, _, _, rfl⟩
   rw [hd] at hp i1 i2 i3 i4 i5
   simp only [] at hp i1 i2 i3 i4 i5
   subst hp
   by_cases e1 : (zgt l n).e = 0
   · by_cases e2 : (zgt l (zgt l n).at').e = 0
     · by_cases e3 : lfault (lstN M k) (sampleOf (lstN M k) (zgt l n).x (zgt l (zgt l n).at').x) = 0
       · rw [dec_e4 hd e1 e2 e3]
         obtain ⟨z1, z2⟩ := zgt_bits i3 e1
         obtain ⟨z3, z4⟩ := zgt_bits (zgt_le l n i3) e2
         have hcs := c_sample (lstN M k) (zgt l n).x (zgt l (zgt l n).at').x
         refine ⟨by simp [i1], by simp only []; omega, zgt_le l _ (zgt_le l n i3), ?_, ?_⟩
         · subst i1
           show faultTo (M ++ [_]) (M.length + 1) = 0
           rw [faultTo_snoc M _ i4]; exact e3
         · simp only []
           rw [numsN_succ, numsN_pre M _ k (by omega), lstN_pre M _ k (by omega)]
           rw [show (M ++ [sampleOf (lstN M k) (zgt l n).x (zgt l (zgt l n).at').x]).getD k default = sampleOf (lstN M k) (zgt l n).x (zgt l (zgt l n).at').x by rw [← i1]; exact getD_last M _]
           rw [List.flatMap_append, i5, hcs.1, hcs.2]
           show bl l 8 (n - 8) ++ (zbits _ ++ (zbits _ ++ [])) = _
           rw [List.append_nil, z2, z4]
           have q1 : bl l n ((zgt l n).at' - n) = bl l (8 + (n - 8)) ((zgt l n).at' - n) := by congr 1; omega
           have q2 : bl l (zgt l n).at' ((zgt l (zgt l n).at').at' - (zgt l n).at') = bl l (8 + (n - 8 + ((zgt l n).at' - n))) ((zgt l (zgt l n).at').at' - (zgt l n).at') := by congr 1; omega
           rw [← List.append_assoc, q1, bl_cat, q2, bl_cat]
           congr 1; omega
       · have := dec_e3 hd e1 e2 e3; rw [this] at h; exact absurd h (by decide)
     · have := dec_e2 hd e1 e2; rw [this] at h; exact absurd h e2
   · have := dec_e1 hd e1; rw [this] at h; exact absurd h e1
theorem dec_enc {l : List Int} (h0 : l.length ≠ 0) {M : List Smp} {n : Nat} (hd : decS l (decN l) = ⟨M, n, 0⟩) : M.length = decN l ∧ 8 ≤ n ∧ n ≤ 8 * l.length ∧ faultTo M M.length = 0 ∧ encL M M.length = bl l 0 n := by
 have := decS_bits h0 (decN l) (by rw [hd])
 rw [hd] at this
 obtain ⟨i1, i2, i3, i4, i5⟩ := this
 simp only [] at i1 i2 i3 i4 i5
 refine ⟨i1, i2, i3, by rw [i1]; exact i4, ?_⟩
 rw [encL_eq, i1, i5]
 have hN : ((decN l : Nat) : Int) = numB l 0 8 := by unfold decN; have := (numB_bd l 0 8).1; omega
 rw [hN, bits_num, show bl l 8 (n - 8) = bl l (0 + 8) (n - 8) from rfl, bl_cat]
 congr 1; omega
theorem num_zero {l : List Int} {n : Nat} : ∀ w, numB l n w = 0 ↔ ∀ i, i < w → bitB l (n + i) = 0
 | 0 => ⟨fun _ i h => by omega, fun _ => rfl⟩
 | w + 1 => by
   have h1 := (numB_bd l n w).1
   have h2 := bitB_bd l (n + w)
   have ih := num_zero (l := l) (n := n) w
   constructor
   · intro h i hi
     have h' : 2 * numB l n w + bitB l (n + w) = 0 := h
     by_cases e : i = w
     · subst e; omega
     · exact ih.1 (by omega) i (by omega)
   · intro h
     have a := ih.2 fun i hi => h i (by omega)
     have b := h w (by omega)
     show 2 * numB l n w + bitB l (n + w) = 0
     omega
theorem byte_bits {l : List Int} (hl : Bytes l) (j : Nat) : bitB l (8 * j) * 128 + bitB l (8 * j + 1) * 64 + bitB l (8 * j + 2) * 32 + bitB l (8 * j + 3) * 16 + bitB l (8 * j + 4) * 8 + bitB l (8 * j + 5) * 4 + bitB l (8 * j + 6) * 2 + bitB l (8 * j + 7) = l.getD j 0 := by
 have := hl.b j
 have key : ∀ i, i < 8 → bitB l (8 * j + i) = l.getD j 0 / 2 ^ (7 - i) % 2 := fun i hi => by unfold bitB; rw [show (8 * j + i) / 8 = j by omega, show (8 * j + i) % 8 = i by omega]
 have k0 := key 0 (by omega)
 rw [Nat.add_zero] at k0
 rw [k0, key 1 (by omega), key 2 (by omega), key 3 (by omega), key 4 (by omega), key 5 (by omega), key 6 (by omega), key 7 (by omega)]
 generalize l.getD j 0 = x at *
 show x / 2 ^ 7 % 2 * 128 + x / 2 ^ 6 % 2 * 64 + x / 2 ^ 5 % 2 * 32 + x / 2 ^ 4 % 2 * 16 + x / 2 ^ 3 % 2 * 8 + x / 2 ^ 2 % 2 * 4 + x / 2 ^ 1 % 2 * 2 + x / 2 ^ 0 % 2 = x
 rw [show (2 : Int) ^ 7 = 128 by decide, show (2 : Int) ^ 6 = 64 by decide, show (2 : Int) ^ 5 = 32 by decide, show (2 : Int) ^ 4 = 16 by decide, show (2 : Int) ^ 3 = 8 by decide, show (2 : Int) ^ 2 = 4 by decide, show (2 : Int) ^ 1 = 2 by decide, show (2 : Int) ^ 0 = 1 by decide]
 omega
theorem pack_bit {L : List Int} (hL : AllBits L) (j r : Nat) (hr : r < 8) : packByte L j / 2 ^ (7 - r) % 2 = L.getD (8 * j + r) 0 := by
 have h0 := hL.getD (8 * j); have h1 := hL.getD (8 * j + 1); have h2 := hL.getD (8 * j + 2); have h3 := hL.getD (8 * j + 3)
 have h4 := hL.getD (8 * j + 4); have h5 := hL.getD (8 * j + 5); have h6 := hL.getD (8 * j + 6); have h7 := hL.getD (8 * j + 7)
 have e7 : (2 : Int) ^ 7 = 128 := by decide
 have e6 : (2 : Int) ^ 6 = 64 := by decide
 have e5 : (2 : Int) ^ 5 = 32 := by decide
 have e4 : (2 : Int) ^ 4 = 16 := by decide
 have e3 : (2 : Int) ^ 3 = 8 := by decide
 have e2 : (2 : Int) ^ 2 = 4 := by decide
 have e1 : (2 : Int) ^ 1 = 2 := by decide
 have e0 : (2 : Int) ^ 0 = 1 := by decide
 unfold packByte
 rcases (show r = 0 ∨ r = 1 ∨ r = 2 ∨ r = 3 ∨ r = 4 ∨ r = 5 ∨ r = 6 ∨ r = 7 by omega) with rfl | rfl | rfl | rfl | rfl | rfl | rfl | rfl
 · show _ / 2 ^ 7 % 2 = _; rw [e7]; show _ = L.getD (8 * j) 0; omega
 · show _ / 2 ^ 6 % 2 = _; rw [e6]; omega
 · show _ / 2 ^ 5 % 2 = _; rw [e5]; omega
 · show _ / 2 ^ 4 % 2 = _; rw [e4]; omega
 · show _ / 2 ^ 3 % 2 = _; rw [e3]; omega
 · show _ / 2 ^ 2 % 2 = _; rw [e2]; omega
 · show _ / 2 ^ 1 % 2 = _; rw [e1]; omega
 · show _ / 2 ^ 0 % 2 = _; rw [e0]; omega
theorem pack_iff {l : List Int} (hl : Bytes l) {n : Nat} (hn : n ≤ 8 * l.length) : pack (bl l 0 n) = l ↔ restOK l n := by
 unfold restOK
 constructor
 · intro h
   have hlen : (pack (bl l 0 n)).length = l.length := by rw [h]
   rw [pack_length, bl_len] at hlen
   refine ⟨(num_zero _).2 fun i hi => ?_, by omega⟩
   have hw : (8 * l.length - n) % 8 = 8 * l.length - n := by omega
   have hj : (n + i) / 8 < l.length := by omega
   have hg : l.getD ((n + i) / 8) 0 = packByte (bl l 0 n) ((n + i) / 8) := by
     have := pack_get (bl l 0 n) ((n + i) / 8)
     rw [h, bl_len, if_pos (by omega)] at this
     simp [List.getD, this]
   unfold bitB
   rw [hg, pack_bit (bl_bits l 0 n) _ _ (by omega), show 8 * ((n + i) / 8) + (n + i) % 8 = n + i by omega, bl_get, if_neg (by omega)]
 · rintro ⟨h1, h2⟩
   rw [num_zero] at h1
   have key : ∀ i, i < 8 * l.length → (bl l 0 n).getD i 0 = bitB l i := by
     intro i hi
     rw [bl_get]
     by_cases h : i < n
     · rw [if_pos h, Nat.zero_add]
     · rw [if_neg h]
       have := h1 (i - n) (by omega)
       rw [show n + (i - n) = i by omega] at this
       exact this.symm
   apply List.ext_getElem?
   intro j
   rw [pack_get, bl_len]
   by_cases hj : j < l.length
   · rw [if_pos (by omega)]
     have e : l[j]? = some (l.getD j 0) := by simp [List.getD, hj]
     rw [e, ← byte_bits hl j]
     unfold packByte
     rw [key _ (by omega), key _ (by omega), key _ (by omega), key _ (by omega), key _ (by omega), key _ (by omega), key _ (by omega), key _ (by omega)]
   · rw [if_neg (by omega), List.getElem?_eq_none (by omega)]
theorem smp_bd {M : List Smp} {k : Nat} (hf : faultTo M k = 0) (hMl : M.length = k) (j : Nat) : inB (M.getD j default).t ∧ inB (M.getD j default).v := by
 by_cases hj : j < k
 · exact ⟨(smp_at hf hj).1, (smp_at hf hj).2.1⟩
 · have e : M.getD j default = default := by rw [List.getD_eq_getElem?_getD, List.getElem?_eq_none (by omega)]; rfl
   rw [e]; exact ⟨⟨by decide, by decide⟩, ⟨by decide, by decide⟩⟩
theorem enc_iff {l : List Int} (hl : Bytes l) (h0 : l.length ≠ 0) {M : List Smp} {n : Nat} (hd : decS l (decN l) = ⟨M, n, 0⟩) : encB M = l ↔ restOK l n := by
 obtain ⟨_, _, h3, _, h5⟩ := dec_enc h0 hd
 unfold encB
 rw [h5]
 exact pack_iff hl h3
end Go.Proofs.YtpdojmebloekgaaDoor.Nice.Co
namespace Go.Proofs.YtpdojmebloekgaaDoor.Nice.Co
open Go
set_option linter.unusedVariables false
set_option linter.unusedSimpArgs false
set_option maxRecDepth 100000
set_option maxHeartbeats 4000000
theorem encB_bytes {M : List Smp} (h : sfault M = 0) (hl : M.length ≤ 120) : Bytes (encB M) := by
 have h1 := encL_len M M.length
 have hb := pack_bd (encL M M.length) (encL_bits M M.length)
 refine ⟨by unfold encB; rw [pack_length]; omega, fun k => ?_⟩
 by_cases hk : k < (encB M).length
 · have e : (encB M).getD k 0 = (encB M)[k] := by simp [List.getD, hk]
   rw [e]; exact hb _ (List.getElem_mem hk)
 · rw [List.getD_eq_getElem?_getD, List.getElem?_eq_none (by omega)]; exact ⟨by decide, by decide⟩
theorem decoded_any (l : List Int) (hl : Bytes l) : Spec Tryd.prog GC 21 [u8V l] [] (fun r ho => (decE l = 0 ∧ r = SV.tup [smpV (decM l), SV.i 0] ∧ ho = []) ∨ (decE l ≠ 0 ∧ r = SV.tup [.d .nils, SV.i (decE l)] ∧ ho = [])) := by
 have hlb := hl
 obtain ⟨hl1, hl2⟩ := hl
 refine start 113 0 Tryd.func21 rfl rfl rfl rfl ?_
 refine r1 <| sT 2 0 1 rfl <| sT 3 8 2 rfl <| e1 16 rfl <| keep [0] rfl <| W_seq <| r1 <| sT 17 16 1 rfl <| sO 18 24 2 rfl <| sO 19 32 3 rfl <| e1 40 rfl <| keep [0, 19] rfl ?_
 refine q1 rfl (fun hc1 => ?_) (fun hc1 => ?_)
 try simp only [cs, ne_eq] at hc1
 refine r1 <| sT 2 40 1 rfl <| sT 3 48 2 rfl <| e1 56 rfl <| keep [2, 3] rfl <| W_ret <| tr ?_
 have hE : decE l = 5 := (by unfold decE; rw [if_pos (by omega)])
 exact out2 2 3 (.d .nils) (SV.i (decE l)) (π := []) (hout := []) Tryd.results21 rfl rfl rfl (by rw [hE]; rfl) rfl rfl trivial (.inr ⟨by rw [hE]; first | decide | assumption, rfl, rfl⟩)
 try simp only [cs, ne_eq] at hc1
 have h0 : l.length ≠ 0 := (by omega)
 have hb0 := hl2 0
 refine W_skip <| tn <| r1 <| sT 20 40 1 rfl ?_
 refine sV 21 48 2 rfl (by constructor <;> omega) ?_
 refine sO 22 56 3 rfl ?_
 refine val 22 (.d (.val (.int .u8 (l.getD 0 0)))) rfl rfl ?_
 refine sT 23 64 4 rfl ?_
 refine val 23 (SV.i (l.getD 0 0)) rfl (congrArg (fun x => SV.d (D.val (Value.int .i64 x))) (wrap_in ⟨by omega, by omega⟩)) ?_
 refine sT 4 72 5 rfl <| e1 80 rfl <| keep [0, 4] rfl <| W_seq <| r1 <| sT 24 80 1 rfl <| sO 25 88 2 rfl <| e1 96 rfl <| keep [0, 4, 25] rfl ?_
 refine q1 rfl (fun hc4 => ?_) (fun hc4 => ?_)
 try simp only [cs, ne_eq] at hc4
 refine r1 <| sT 2 96 1 rfl <| sT 3 104 2 rfl <| e1 112 rfl <| keep [2, 3] rfl <| W_ret <| tr ?_
 have hE : decE l = 4 := (by unfold decE; rw [if_neg h0, if_pos (by rw [byte8 hlb]; omega)])
 exact out2 2 3 (.d .nils) (SV.i (decE l)) (π := []) (hout := []) Tryd.results21 rfl rfl rfl (by rw [hE]; rfl) rfl rfl trivial (.inr ⟨by rw [hE]; first | decide | assumption, rfl, rfl⟩)
 try simp only [cs, ne_eq] at hc4
 have hN : numB l 0 8 ≤ 120 := (by rw [byte8 hlb]; omega)
 have hN0 := (numB_bd l 0 8).1
 refine W_skip <| tn ?_
 refine cval 4 (SV.i (numB l 0 8)) rfl (by rw [byte8 hlb]) ?_
 refine r1 <| sT 5 96 1 rfl <| e1 104 rfl <| keep [0, 4, 5] rfl <| r1 <| sT 6 104 1 rfl <| e1 112 rfl <| keep [0, 4, 5, 6] rfl <| W_seq <| r1 <| sT 7 112 1 rfl <| e1 120 rfl <| keep [0, 4, 5, 6, 7] rfl <| W_block ?_
 refine ghostly 6 67 2 (smpF []) rfl ?_
 refine loop (α := Nat × Nat × List Smp) 1 (fun z => [(0, u8V l), (4, SV.i (numB l 0 8)), (5, SV.i (z.2.1)), (6, .sl 0 0 (z.2.2).length), (7, SV.i (z.1))]) (fun z => [some (.rows 67 2 (z.2.2).length (smpF (z.2.2)))]) (fun z => ((z.1) : Int) ≤ numB l 0 8 ∧ decS l (z.1) = ⟨(z.2.2), (z.2.1), 0⟩ ∧ (z.2.2).length = (z.1) ∧ faultTo (z.2.2) (z.1) = 0 ∧ (z.2.1) ≤ 8 * l.length) (fun z => (numB l 0 8).toNat - (z.1)) (((0, 8, []) : Nat × Nat × List Smp)) [120] (fun _ => rfl) (show ((0) : Int) ≤ numB l 0 8 ∧ decS l (0) = ⟨([]), (8), 0⟩ ∧ ([]).length = (0) ∧ faultTo ([]) (0) = 0 ∧ (8) ≤ 8 * l.length from ⟨hN0, rfl, rfl, rfl, by omega⟩) rfl ⟨rfl, rfl, rfl, rfl, rfl, trivial⟩ ⟨rfl, trivial⟩ (fun z hx => ?_)
 obtain ⟨k, n, M⟩ := z
 show W _ _ _ ⟨tOf [(0, u8V l), (4, SV.i (numB l 0 8)), (5, SV.i n), (6, .sl 0 0 M.length), (7, SV.i k)], hOf [some (.rows 67 2 M.length (smpF M))], 1⟩
 have hx : (k : Int) ≤ numB l 0 8 ∧ decS l k = ⟨M, n, 0⟩ ∧ M.length = k ∧ faultTo M k = 0 ∧ n ≤ 8 * l.length := hx
 obtain ⟨hk, hd, hMl, hf, hn⟩ := hx
 refine W_seq <| r1 <| sT 26 1 1 rfl <| sT 27 9 2 rfl <| sO 28 17 3 rfl <| e1 25 rfl <| keep [0, 4, 5, 6, 7, 28] rfl ?_
 refine q1 rfl (fun hc9 => ?_) (fun hc9 => ?_)
 · skip
   try simp only [cs, ne_eq] at hc9
   refine W_skip <| tn <| W_seq <| W_block <| r1 <| sT 32 25 1 rfl <| sT 33 33 2 rfl ?_
   refine c1 (zigAt_any l hlb n hn) [] [] 34 41 3 rfl rfl rfl rfl rfl rfl rfl rfl Tryd.func50 rfl rfl rfl rfl trivial rfl rfl ?_
   refine sT 31 49 4 rfl <| sT 35 57 5 rfl <| sT 36 65 6 rfl <| sT 37 73 7 rfl <| sT 8 81 8 rfl <| sT 9 89 9 rfl <| sT 10 97 10 rfl <| e1 105 rfl <| keep [0, 4, 6, 7, 8, 9, 10] rfl <| W_seq <| r1 <| sT 38 105 1 rfl <| sO 39 113 2 rfl <| e1 121 rfl <| keep [0, 4, 6, 7, 8, 9, 10, 39] rfl ?_
   refine q1 rfl (fun hc12 => ?_) (fun hc12 => ?_)
   try simp only [cs, ne_eq] at hc12
   refine r1 <| sT 40 121 1 rfl <| sT 2 129 2 rfl <| sT 3 137 3 rfl <| e1 145 rfl <| keep [2, 3] rfl <| W_ret <| tr <| br <| tr <| tr <| br <| tr ?_
   have he := dec_e1 hd hc12
   have hE : decE l = (zgt l n).e := (by rw [decE_loop h0 hN (show k + 1 ≤ decN l by unfold decN; omega) (by rw [he]; exact hc12), he])
   exact out2 2 3 (.d .nils) (SV.i (decE l)) (π := []) (hout := []) Tryd.results21 rfl rfl rfl (by rw [hE]; rfl) rfl rfl trivial (.inr ⟨by rw [hE]; first | decide | assumption, rfl, rfl⟩)
   try simp only [cs, ne_eq] at hc12
   refine W_skip <| tn ?_
   refine cval 9 (SV.i ((zgt l n).at' : Nat)) rfl (by unfold zgA; rw [if_pos hc12]) ?_
   refine r1 <| sT 42 121 1 rfl <| sT 43 129 2 rfl ?_
   refine c1 (zigAt_any l hlb ((zgt l n).at') (zgt_le l n hn)) [] [] 44 137 3 rfl rfl rfl rfl rfl rfl rfl rfl Tryd.func50 rfl rfl rfl rfl trivial rfl rfl ?_
   refine sT 41 145 4 rfl <| sT 45 153 5 rfl <| sT 46 161 6 rfl <| sT 47 169 7 rfl <| sT 11 177 8 rfl <| sT 12 185 9 rfl <| sT 13 193 10 rfl <| e1 201 rfl <| keep [0, 4, 6, 7, 8, 11, 12, 13] rfl <| W_seq <| r1 <| sT 48 201 1 rfl <| sO 49 209 2 rfl <| e1 217 rfl <| keep [0, 4, 6, 7, 8, 11, 12, 13, 49] rfl ?_
   refine q1 rfl (fun hc15 => ?_) (fun hc15 => ?_)
   try simp only [cs, ne_eq] at hc15
   refine r1 <| sT 50 217 1 rfl <| sT 2 225 2 rfl <| sT 3 233 3 rfl <| e1 241 rfl <| keep [2, 3] rfl <| W_ret <| tr <| br <| tr <| tr <| br <| tr ?_
   have he := dec_e2 hd hc12 hc15
   have hE : decE l = (zgt l ((zgt l n).at')).e := (by rw [decE_loop h0 hN (show k + 1 ≤ decN l by unfold decN; omega) (by rw [he]; exact hc15), he])
   exact out2 2 3 (.d .nils) (SV.i (decE l)) (π := []) (hout := []) Tryd.results21 rfl rfl rfl (by rw [hE]; rfl) rfl rfl trivial (.inr ⟨by rw [hE]; first | decide | assumption, rfl, rfl⟩)
   try simp only [cs, ne_eq] at hc15
   have hx1 := zgt_sm l n
   have hx2 := zgt_sm l ((zgt l n).at')
   unfold isSm at hx1 hx2
   refine W_skip <| tn ?_
   refine cval 12 (SV.i ((zgt l ((zgt l n).at')).at' : Nat)) rfl (by unfold zgA; rw [if_pos hc15]) ?_
   have ho1 := smp_bd hf hMl (k - 1)
   have ho2 := smp_bd hf hMl (k - 2)
   unfold inB at ho1 ho2
   refine r1 <| sT 51 217 1 rfl <| sT 5 225 2 rfl <| e1 233 rfl <| keep [0, 4, 5, 6, 7, 8, 11] rfl <| r1 <| sT 52 233 1 rfl <| sT 53 241 2 rfl <| sT 54 249 3 rfl <| sT 14 257 4 rfl <| s0O 265 5 rfl rfl rfl rfl rfl <| e1 273 rfl <| keep [0, 4, 5, 6, 7, 14] rfl <| W_seq <| r1 <| sT 55 273 1 rfl ?_
   refine sO 56 281 2 rfl <| e1 289 rfl <| keep [0, 4, 5, 6, 7, 14, 56] rfl ?_
   refine q1 rfl (fun hc19 => ?_) (fun hc19 => ?_)
   · skip
     try simp only [cs, ne_eq] at hc19
     refine rd1 rfl ?_
     refine dT 57 289 1 rfl <| dO 58 297 2 rfl <| dT 59 305 3 rfl <| dT 60 313 4 rfl <| dAO 61 321 5 rfl ?_
     refine dV 62 329 6 rfl (by constructor <;> omega) ?_
     refine dT 63 337 7 rfl <| dO 64 345 8 rfl ?_
     refine val 64 (SV.i (M.getD (k - 1) default).t) rfl (by rw [show ((k : Int) - 1).toNat = k - 1 by omega]; show SV.i (M.getD (0 + (k - 1)) default).t = _; rw [Nat.zero_add]) ?_
     refine dAO 65 353 9 rfl <| dT 66 361 10 rfl ?_
     refine d0 369 11 rfl rfl rfl rfl rfl (by first | trivial | omega) ?_
     refine de1 377 rfl (by kernel_rfl) <| keep [0, 4, 5, 6, 7, 14] rfl ?_
     refine rd0 rfl ?_
     refine dT 67 377 1 rfl <| dO 68 385 2 rfl <| dT 69 393 3 rfl <| dT 70 401 4 rfl <| dAO 71 409 5 rfl ?_
     refine dV 72 417 6 rfl (by constructor <;> omega) ?_
     refine dT 73 425 7 rfl <| dO 74 433 8 rfl ?_
     refine val 74 (SV.i (M.getD (k - 1) default).v) rfl (by rw [show ((k : Int) - 1).toNat = k - 1 by omega]; show SV.i (M.getD (0 + (k - 1)) default).v = _; rw [Nat.zero_add]) ?_
     refine dAO 75 441 9 rfl <| dT 76 449 10 rfl ?_
     refine d0 457 11 rfl rfl rfl rfl rfl (by first | trivial | omega) ?_
     refine de1 465 rfl (by kernel_rfl) <| tn <| W_seq <| r1 <| sT 77 465 1 rfl <| sO 78 473 2 rfl <| e1 481 rfl <| keep [0, 4, 5, 6, 7, 14, 78] rfl ?_
     refine q1 rfl (fun hc22 => ?_) (fun hc22 => ?_)
     try simp only [cs, ne_eq] at hc22
     refine rd0 rfl ?_
     refine dT 79 481 1 rfl <| dO 80 489 2 rfl <| dT 81 497 3 rfl <| dT 82 505 4 rfl <| dAO 83 513 5 rfl <| dO 84 521 6 rfl <| dT 85 529 7 rfl <| dO 86 537 8 rfl ?_
     refine val 86 (SV.i (M.getD (k - 1) default).t) rfl (by rw [show ((k : Int) - 1).toNat = k - 1 by omega]; show SV.i (M.getD (0 + (k - 1)) default).t = _; rw [Nat.zero_add]) ?_
     refine dT 87 545 9 rfl <| dT 88 553 10 rfl <| dAO 89 561 11 rfl <| dO 90 569 12 rfl <| dT 91 577 13 rfl <| dO 92 585 14 rfl ?_
     refine val 92 (SV.i (M.getD (k - 2) default).t) rfl (by rw [show ((k : Int) - 2).toNat = k - 2 by omega]; show SV.i (M.getD (0 + (k - 2)) default).t = _; rw [Nat.zero_add]) ?_
     refine dAO 93 593 15 rfl <| dAO 94 601 16 rfl <| dT 95 609 17 rfl ?_
     refine d0 617 18 rfl rfl rfl rfl rfl (by first | trivial | omega) ?_
     refine de1 625 rfl (by kernel_rfl) <| tn ?_
     have hsm : (sampleOf (lstN M k) (zgt l n).x (zgt l ((zgt l n).at')).x) = ⟨(zgt l n).x + (M.getD (k - 1) default).t + ((M.getD (k - 1) default).t - (M.getD (k - 2) default).t), (zgt l ((zgt l n).at')).x + (M.getD (k - 1) default).v⟩ := (by exact sampleOf_2 M _ _ (by omega))
     refine chval 257 (Blk.cells 67 2 [SV.i (sampleOf (lstN M k) (zgt l n).x (zgt l ((zgt l n).at')).x).t, SV.i (sampleOf (lstN M k) (zgt l n).x (zgt l ((zgt l n).at')).x).v]) rfl (show Blk.cells 67 2 [SV.i ((zgt l n).x + (M.getD (k - 1) default).t + ((M.getD (k - 1) default).t - (M.getD (k - 2) default).t)), SV.i ((zgt l ((zgt l n).at')).x + (M.getD (k - 1) default).v)] = Blk.cells 67 2 [SV.i (sampleOf (lstN M k) (zgt l n).x (zgt l ((zgt l n).at')).x).t, SV.i (sampleOf (lstN M k) (zgt l n).x (zgt l ((zgt l n).at')).x).v] from by rw [hsm]) ?_
     refine r1 <| sT 96 625 1 rfl <| sO 97 633 2 rfl <| sT 98 641 3 rfl ?_
     refine sV 99 649 4 rfl ⟨Nat.le_refl _, trivial, (by show (M.length + 1) * 16 ≤ 140737488355328; omega), (by simp only [maxLen]; omega)⟩ ?_
     refine sT 6 657 5 rfl <| e1 665 rfl <| keep [0, 4, 5, 6, 7] rfl ?_
     refine rowsc 649 (M ++ [(sampleOf (lstN M k) (zgt l n).x (zgt l ((zgt l n).at')).x)]).length (smpF (M ++ [(sampleOf (lstN M k) (zgt l n).x (zgt l ((zgt l n).at')).x)])) rfl (by simp) (fun q c hq hc => cat_smp' (s := (sampleOf (lstN M k) (zgt l n).x (zgt l ((zgt l n).at')).x)) q c hq hc) ?_
     refine cval 6 (.sl 649 0 (M ++ [(sampleOf (lstN M k) (zgt l n).x (zgt l ((zgt l n).at')).x)]).length) rfl (by simp) ?_
     have hsf : sfault (M ++ [(sampleOf (lstN M k) (zgt l n).x (zgt l ((zgt l n).at')).x)]) = lfault (lstN M k) (sampleOf (lstN M k) (zgt l n).x (zgt l ((zgt l n).at')).x) := (by rw [sfault_snoc (by rw [hMl]; exact hf) (by omega), hMl])
     refine r1 <| sT 100 665 1 rfl ?_
     refine c1 (sfault_own (M ++ [(sampleOf (lstN M k) (zgt l n).x (zgt l ((zgt l n).at')).x)]) (by simp; omega)) [649] [649] 101 673 2 rfl rfl rfl rfl rfl rfl rfl rfl Tryd.func36 rfl rfl rfl rfl ⟨rfl, trivial⟩ rfl rfl ?_
     refine sO 102 681 3 rfl <| e1 689 rfl <| keep [0, 4, 5, 6, 7, 102] rfl ?_
     refine q1 rfl (fun hc25 => ?_) (fun hc25 => ?_)
     try simp only [cs, ne_eq] at hc25
     refine r1 <| sT 2 689 1 rfl <| sT 3 697 2 rfl <| e1 705 rfl <| keep [2, 3] rfl <| W_ret <| br <| tr <| tr <| br <| tr ?_
     rw [hsf] at hc25
     have he := dec_e3 hd hc12 hc15 hc25
     have hE : decE l = 4 := (by rw [decE_loop h0 hN (show k + 1 ≤ decN l by unfold decN; omega) (by rw [he]; decide), he])
     exact out2 2 3 (.d .nils) (SV.i (decE l)) (π := []) (hout := []) Tryd.results21 rfl rfl rfl (by rw [hE]; rfl) rfl rfl trivial (.inr ⟨by rw [hE]; first | decide | assumption, rfl, rfl⟩)
     try simp only [cs, ne_eq] at hc25
     rw [hsf] at hc25
     have hds := dec_e4 hd hc12 hc15 hc25
     refine W_skip <| bn <| tn ?_
     refine r0 ?_
     refine sT 29 689 1 rfl <| sAO 30 697 2 rfl <| sT 7 705 3 rfl <| e1 713 rfl <| tn ?_
     exact again (((k + 1, (zgt l ((zgt l n).at')).at', M ++ [(sampleOf (lstN M k) (zgt l n).x (zgt l ((zgt l n).at')).x)]) : Nat × Nat × List Smp)) [649] (show ((k + 1) : Int) ≤ numB l 0 8 ∧ decS l (k + 1) = ⟨(M ++ [(sampleOf (lstN M k) (zgt l n).x (zgt l ((zgt l n).at')).x)]), ((zgt l ((zgt l n).at')).at'), 0⟩ ∧ (M ++ [(sampleOf (lstN M k) (zgt l n).x (zgt l ((zgt l n).at')).x)]).length = (k + 1) ∧ faultTo (M ++ [(sampleOf (lstN M k) (zgt l n).x (zgt l ((zgt l n).at')).x)]) (k + 1) = 0 ∧ ((zgt l ((zgt l n).at')).at') ≤ 8 * l.length from ⟨by omega, hds, by simp [hMl], (by rw [← hMl, faultTo_snoc M _ (by rw [hMl]; exact hf), hMl]; exact hc25), zgt_le l _ (zgt_le l n hn)⟩) (show (numB l 0 8).toNat - (k + 1) < (numB l 0 8).toNat - k from (by omega)) rfl ⟨rfl, rfl, rfl, rfl, rfl, trivial⟩ ⟨rfl, trivial⟩
     try simp only [cs, ne_eq] at hc22
     refine W_skip <| tn ?_
     have hsm : (sampleOf (lstN M k) (zgt l n).x (zgt l ((zgt l n).at')).x) = ⟨(zgt l n).x + (M.getD (k - 1) default).t, (zgt l ((zgt l n).at')).x + (M.getD (k - 1) default).v⟩ := (by obtain rfl : k = 1 := (by omega); exact sampleOf_1 M _ _)
     refine chval 257 (Blk.cells 67 2 [SV.i (sampleOf (lstN M k) (zgt l n).x (zgt l ((zgt l n).at')).x).t, SV.i (sampleOf (lstN M k) (zgt l n).x (zgt l ((zgt l n).at')).x).v]) rfl (show Blk.cells 67 2 [SV.i ((zgt l n).x + (M.getD (k - 1) default).t), SV.i ((zgt l ((zgt l n).at')).x + (M.getD (k - 1) default).v)] = Blk.cells 67 2 [SV.i (sampleOf (lstN M k) (zgt l n).x (zgt l ((zgt l n).at')).x).t, SV.i (sampleOf (lstN M k) (zgt l n).x (zgt l ((zgt l n).at')).x).v] from by rw [hsm]) ?_
     refine r1 <| sT 96 481 1 rfl <| sO 97 489 2 rfl <| sT 98 497 3 rfl ?_
     refine sV 99 505 4 rfl ⟨Nat.le_refl _, trivial, (by show (M.length + 1) * 16 ≤ 140737488355328; omega), (by simp only [maxLen]; omega)⟩ ?_
     refine sT 6 513 5 rfl <| e1 521 rfl <| keep [0, 4, 5, 6, 7] rfl ?_
     refine rowsc 505 (M ++ [(sampleOf (lstN M k) (zgt l n).x (zgt l ((zgt l n).at')).x)]).length (smpF (M ++ [(sampleOf (lstN M k) (zgt l n).x (zgt l ((zgt l n).at')).x)])) rfl (by simp) (fun q c hq hc => cat_smp' (s := (sampleOf (lstN M k) (zgt l n).x (zgt l ((zgt l n).at')).x)) q c hq hc) ?_
     refine cval 6 (.sl 505 0 (M ++ [(sampleOf (lstN M k) (zgt l n).x (zgt l ((zgt l n).at')).x)]).length) rfl (by simp) ?_
     have hsf : sfault (M ++ [(sampleOf (lstN M k) (zgt l n).x (zgt l ((zgt l n).at')).x)]) = lfault (lstN M k) (sampleOf (lstN M k) (zgt l n).x (zgt l ((zgt l n).at')).x) := (by rw [sfault_snoc (by rw [hMl]; exact hf) (by omega), hMl])
     refine r1 <| sT 100 521 1 rfl ?_
     refine c1 (sfault_own (M ++ [(sampleOf (lstN M k) (zgt l n).x (zgt l ((zgt l n).at')).x)]) (by simp; omega)) [505] [505] 101 529 2 rfl rfl rfl rfl rfl rfl rfl rfl Tryd.func36 rfl rfl rfl rfl ⟨rfl, trivial⟩ rfl rfl ?_
     refine sO 102 537 3 rfl <| e1 545 rfl <| keep [0, 4, 5, 6, 7, 102] rfl ?_
     refine q1 rfl (fun hc25 => ?_) (fun hc25 => ?_)
     try simp only [cs, ne_eq] at hc25
     refine r1 <| sT 2 545 1 rfl <| sT 3 553 2 rfl <| e1 561 rfl <| keep [2, 3] rfl <| W_ret <| br <| tr <| tr <| br <| tr ?_
     rw [hsf] at hc25
     have he := dec_e3 hd hc12 hc15 hc25
     have hE : decE l = 4 := (by rw [decE_loop h0 hN (show k + 1 ≤ decN l by unfold decN; omega) (by rw [he]; decide), he])
     exact out2 2 3 (.d .nils) (SV.i (decE l)) (π := []) (hout := []) Tryd.results21 rfl rfl rfl (by rw [hE]; rfl) rfl rfl trivial (.inr ⟨by rw [hE]; first | decide | assumption, rfl, rfl⟩)
     try simp only [cs, ne_eq] at hc25
     rw [hsf] at hc25
     have hds := dec_e4 hd hc12 hc15 hc25
     refine W_skip <| bn <| tn ?_
     refine r0 ?_
     refine sT 29 545 1 rfl <| sAO 30 553 2 rfl <| sT 7 561 3 rfl <| e1 569 rfl <| tn ?_
     exact again (((k + 1, (zgt l ((zgt l n).at')).at', M ++ [(sampleOf (lstN M k) (zgt l n).x (zgt l ((zgt l n).at')).x)]) : Nat × Nat × List Smp)) [505] (show ((k + 1) : Int) ≤ numB l 0 8 ∧ decS l (k + 1) = ⟨(M ++ [(sampleOf (lstN M k) (zgt l n).x (zgt l ((zgt l n).at')).x)]), ((zgt l ((zgt l n).at')).at'), 0⟩ ∧ (M ++ [(sampleOf (lstN M k) (zgt l n).x (zgt l ((zgt l n).at')).x)]).length = (k + 1) ∧ faultTo (M ++ [(sampleOf (lstN M k) (zgt l n).x (zgt l ((zgt l n).at')).x)]) (k + 1) = 0 ∧ ((zgt l ((zgt l n).at')).at') ≤ 8 * l.length from ⟨by omega, hds, by simp [hMl], (by rw [← hMl, faultTo_snoc M _ (by rw [hMl]; exact hf), hMl]; exact hc25), zgt_le l _ (zgt_le l n hn)⟩) (show (numB l 0 8).toNat - (k + 1) < (numB l 0 8).toNat - k from (by omega)) rfl ⟨rfl, rfl, rfl, rfl, rfl, trivial⟩ ⟨rfl, trivial⟩
   try simp only [cs, ne_eq] at hc19
   refine W_skip <| tn <| W_seq <| r1 <| sT 77 289 1 rfl <| sO 78 297 2 rfl <| e1 305 rfl <| keep [0, 4, 5, 6, 7, 14, 78] rfl ?_
   refine q1 rfl (fun hc22 => ?_) (fun hc22 => ?_)
   exfalso; simp at hc22; omega
   try simp only [cs, ne_eq] at hc22
   refine W_skip <| tn ?_
   have hsm : (sampleOf (lstN M k) (zgt l n).x (zgt l ((zgt l n).at')).x) = ⟨(zgt l n).x, (zgt l ((zgt l n).at')).x⟩ := (by obtain rfl : k = 0 := (by omega); rfl)
   refine chval 257 (Blk.cells 67 2 [SV.i (sampleOf (lstN M k) (zgt l n).x (zgt l ((zgt l n).at')).x).t, SV.i (sampleOf (lstN M k) (zgt l n).x (zgt l ((zgt l n).at')).x).v]) rfl (show Blk.cells 67 2 [SV.i ((zgt l n).x), SV.i ((zgt l ((zgt l n).at')).x)] = Blk.cells 67 2 [SV.i (sampleOf (lstN M k) (zgt l n).x (zgt l ((zgt l n).at')).x).t, SV.i (sampleOf (lstN M k) (zgt l n).x (zgt l ((zgt l n).at')).x).v] from by rw [hsm]) ?_
   refine r1 <| sT 96 305 1 rfl <| sO 97 313 2 rfl <| sT 98 321 3 rfl ?_
   refine sV 99 329 4 rfl ⟨Nat.le_refl _, trivial, (by show (M.length + 1) * 16 ≤ 140737488355328; omega), (by simp only [maxLen]; omega)⟩ ?_
   refine sT 6 337 5 rfl <| e1 345 rfl <| keep [0, 4, 5, 6, 7] rfl ?_
   refine rowsc 329 (M ++ [(sampleOf (lstN M k) (zgt l n).x (zgt l ((zgt l n).at')).x)]).length (smpF (M ++ [(sampleOf (lstN M k) (zgt l n).x (zgt l ((zgt l n).at')).x)])) rfl (by simp) (fun q c hq hc => cat_smp' (s := (sampleOf (lstN M k) (zgt l n).x (zgt l ((zgt l n).at')).x)) q c hq hc) ?_
   refine cval 6 (.sl 329 0 (M ++ [(sampleOf (lstN M k) (zgt l n).x (zgt l ((zgt l n).at')).x)]).length) rfl (by simp) ?_
   have hsf : sfault (M ++ [(sampleOf (lstN M k) (zgt l n).x (zgt l ((zgt l n).at')).x)]) = lfault (lstN M k) (sampleOf (lstN M k) (zgt l n).x (zgt l ((zgt l n).at')).x) := (by rw [sfault_snoc (by rw [hMl]; exact hf) (by omega), hMl])
   refine r1 <| sT 100 345 1 rfl ?_
   refine c1 (sfault_own (M ++ [(sampleOf (lstN M k) (zgt l n).x (zgt l ((zgt l n).at')).x)]) (by simp; omega)) [329] [329] 101 353 2 rfl rfl rfl rfl rfl rfl rfl rfl Tryd.func36 rfl rfl rfl rfl ⟨rfl, trivial⟩ rfl rfl ?_
   refine sO 102 361 3 rfl <| e1 369 rfl <| keep [0, 4, 5, 6, 7, 102] rfl ?_
   refine q1 rfl (fun hc25 => ?_) (fun hc25 => ?_)
   try simp only [cs, ne_eq] at hc25
   refine r1 <| sT 2 369 1 rfl <| sT 3 377 2 rfl <| e1 385 rfl <| keep [2, 3] rfl <| W_ret <| br <| tr <| tr <| br <| tr ?_
   rw [hsf] at hc25
   have he := dec_e3 hd hc12 hc15 hc25
   have hE : decE l = 4 := (by rw [decE_loop h0 hN (show k + 1 ≤ decN l by unfold decN; omega) (by rw [he]; decide), he])
   exact out2 2 3 (.d .nils) (SV.i (decE l)) (π := []) (hout := []) Tryd.results21 rfl rfl rfl (by rw [hE]; rfl) rfl rfl trivial (.inr ⟨by rw [hE]; first | decide | assumption, rfl, rfl⟩)
   try simp only [cs, ne_eq] at hc25
   rw [hsf] at hc25
   have hds := dec_e4 hd hc12 hc15 hc25
   refine W_skip <| bn <| tn ?_
   refine r0 ?_
   refine sT 29 369 1 rfl <| sAO 30 377 2 rfl <| sT 7 385 3 rfl <| e1 393 rfl <| tn ?_
   exact again (((k + 1, (zgt l ((zgt l n).at')).at', M ++ [(sampleOf (lstN M k) (zgt l n).x (zgt l ((zgt l n).at')).x)]) : Nat × Nat × List Smp)) [329] (show ((k + 1) : Int) ≤ numB l 0 8 ∧ decS l (k + 1) = ⟨(M ++ [(sampleOf (lstN M k) (zgt l n).x (zgt l ((zgt l n).at')).x)]), ((zgt l ((zgt l n).at')).at'), 0⟩ ∧ (M ++ [(sampleOf (lstN M k) (zgt l n).x (zgt l ((zgt l n).at')).x)]).length = (k + 1) ∧ faultTo (M ++ [(sampleOf (lstN M k) (zgt l n).x (zgt l ((zgt l n).at')).x)]) (k + 1) = 0 ∧ ((zgt l ((zgt l n).at')).at') ≤ 8 * l.length from ⟨by omega, hds, by simp [hMl], (by rw [← hMl, faultTo_snoc M _ (by rw [hMl]; exact hf), hMl]; exact hc25), zgt_le l _ (zgt_le l n hn)⟩) (show (numB l 0 8).toNat - (k + 1) < (numB l 0 8).toNat - k from (by omega)) rfl ⟨rfl, rfl, rfl, rfl, rfl, trivial⟩ ⟨rfl, trivial⟩
 try simp only [cs, ne_eq] at hc9
 refine W_exit <| tx <| tx <| bx <| tn ?_
 have hkN : k = decN l := (by unfold decN; omega)
 have hdN : decS l (decN l) = ⟨M, n, 0⟩ := (by rw [← hkN]; exact hd)
 have hend := decE_end h0 hN hdN
 have hfM : faultTo M M.length = 0 := (by rw [hMl]; exact hf)
 refine freeze 6 0 M.length rfl rfl (Nat.le_refl _) ?_
 refine r1 <| sT 104 25 1 rfl ?_
 refine c1 (encoded_ok M (smpIn_good hfM (by omega)) (sfault_good hfM (by omega))) [] [33] 105 33 2 rfl rfl rfl rfl rfl rfl rfl rfl Tryd.func15 rfl rfl rfl rfl trivial rfl rfl ?_
 refine sT 103 41 3 rfl <| sT 106 49 4 rfl <| sT 107 57 5 rfl <| sT 15 65 6 rfl <| sT 16 73 7 rfl <| e1 81 rfl <| keep [0, 6, 15] rfl <| W_seq ?_
 refine freeze 15 33 (encB M).length rfl rfl (Nat.le_refl _) ?_
 refine r1 <| sT 108 81 1 rfl <| sT 109 89 2 rfl ?_
 refine c1 (refSame_any (encB M) l (encB_bytes (sfault_good hfM (by omega)) (by omega)) hlb) [] [] 110 97 3 rfl rfl rfl rfl rfl rfl rfl rfl Tryd.func51 rfl rfl rfl rfl trivial rfl rfl ?_
 refine sT 111 105 4 rfl <| e1 113 rfl <| keep [6, 111] rfl ?_
 refine q1 rfl (fun hc28 => ?_) (fun hc28 => ?_)
 try simp only [cs, ne_eq] at hc28
 refine r1 <| sT 2 113 1 rfl <| sT 3 121 2 rfl <| e1 129 rfl <| keep [2, 3] rfl <| W_ret <| tr ?_
 have hE : decE l = 4 := (by rw [hend, if_neg (fun h => by have := (enc_iff hlb h0 hdN).2 h; simp [this] at hc28)])
 exact out2 2 3 (.d .nils) (SV.i (decE l)) (π := []) (hout := []) Tryd.results21 rfl rfl rfl (by rw [hE]; rfl) rfl rfl trivial (.inr ⟨by rw [hE]; first | decide | assumption, rfl, rfl⟩)
 try simp only [cs, ne_eq] at hc28
 refine W_skip <| tn <| r1 <| sT 112 113 1 rfl <| sT 2 121 2 rfl <| sT 3 129 3 rfl <| e1 137 rfl <| keep [2, 3] rfl <| W_ret ?_
 have hE : decE l = 0 := (by rw [hend, if_pos ((enc_iff hlb h0 hdN).1 (by simpa using hc28))])
 have hMM : decM l = M := (by unfold decM; rw [hdN])
 exact out2 2 3 (smpV (decM l)) (SV.i 0) (π := []) (hout := []) Tryd.results21 rfl rfl (by rw [hMM]; rfl) rfl rfl rfl trivial (.inl ⟨hE, rfl, rfl⟩)
end Go.Proofs.YtpdojmebloekgaaDoor.Nice.Co
namespace Go.Proofs.YtpdojmebloekgaaDoor.Nice.Co
open Go Go.Conc Go.Conc.Lib Go.ConcR.Gen
open Go.ConcR (KK WgAt stA smA mk DC0)
set_option linter.unusedVariables false
set_option linter.unusedSimpArgs false
set_option maxRecDepth 100000
set_option maxHeartbeats 4000000
section
variable {p : Pr} {Pst : Value → World → Prop}
theorem closer43 (hn : p.n < 2147483647) : Child Tryd.prog GC p Pst 43 (clCaps p) (.cw p.n) := by
 refine child_start (hl := by simp) (hm := rfl) Tryd.func43 rfl rfl (Nat.le_of_ble_eq_true rfl) fun Rd M a w hs hsh => ?_
 refine Tr.idle _ rfl (fun _ => stepG_seq) ?_
 refine Tr.idle _ rfl (fun _ => stepG_region) ?_
 rw [List.range_eq_range']
 refine RX.run (C := ⟨Tryd.prog, 4, 0, GC⟩) (i := 0) (Z := ZB Tryd.prog 43 _) (σ := stOf (argT 0 (clCaps p)) []) ?_ hs (Nat.le_refl _) (by simp [baseD]) ⟨rfl, rfl, rfl⟩
 refine RX_wait ZB.up YtpdojmebloekgaaDoor.wgLib rfl rfl rfl rfl rfl hn (hl' := by simp) (hm' := rfl) ?_
 intro A' M' ρ' a' w' hs' b k cs hb ⟨hb1, hcs, hk⟩
 subst hb1 hcs hk
 refine Tr.idle _ rfl (fun _ => stepG_region_end) ?_
 refine Tr.idle _ rfl (fun _ => stepG_region) ?_
 rw [List.range_eq_range']
 refine RX.run (C := ⟨Tryd.prog, 4, 0, GC⟩) (i := 0) (Z := ZB Tryd.prog 43 []) (σ := ⟨upd (tOf (argT 0 (clCaps p))) 2 .any, hOf [], 8⟩) ?_ hs'.bump (Nat.le_refl _) (by simp [baseD]) ⟨rfl, rfl, rfl⟩
 refine RX_ops ZB.up [_] 0 _ (fun j hj => by simp at hj; subst hj; rfl) ?_
 refine sV 3 8 1 rfl (by decide) ?_
 refine e1 24 rfl ?_
 refine RX_close rfl rfl rfl rfl (fun M w b k cs a hz hd => ?_)
 obtain ⟨rfl, rfl, rfl⟩ := hz
 refine ⟨rfl, 4, ?_⟩
 q_c stepG_region_end
 q_c stepG_end
 obtain ⟨T, d⟩ := a
 simp only at hd
 subst hd
 exact bot_quits Tryd.func43 rfl
end
theorem decE_good {l : List Int} (h : decE l = 0) : l.length ≠ 0 ∧ numB l 0 8 ≤ 120 ∧ (decS l (decN l)).e = 0 := by
 unfold decE at h
 split at h
 · cases h
 · next h0 =>
   split at h
   · cases h
   · next h1 =>
     split at h
     · next h2 => exact absurd h h2
     · next h2 => exact ⟨h0, by omega, by omega⟩
theorem decM_good {l : List Int} (h : decE l = 0) : sfault (decM l) = 0 ∧ SmpIn (decM l) ∧ (decM l).length ≤ 120 := by
 obtain ⟨h0, h1, h2⟩ := decE_good h
 obtain ⟨k1, _, _, k4, _⟩ := decS_bits h0 (decN l) h2
 have h3 := (numB_bd l 0 8).1
 have hn : decN l ≤ 120 := by unfold decN; omega
 have hl : (decM l).length ≤ 120 := by unfold decM; rw [k1]; exact hn
 have hb : ∀ k, inRange ((decM l).getD k default).t ∧ inRange ((decM l).getD k default).v := fun k => by
   have := smp_bd (M := decM l) k4 k1 k
   simp only [inB] at this
   unfold inRange
   constructor <;> omega
 refine ⟨?_, ⟨by omega, fun k => (hb k).1, fun k => (hb k).2⟩, hl⟩
 unfold sfault
 rw [if_neg (by omega)]
 unfold decM
 rw [k1]; exact k4
def rR (l : List Int) : Roll := if decE l = 0 then ofR (decM l) else ⟨0, 0, 0, 0⟩
theorem decode_ok (l : List Int) (hl : Bytes l) (hE : decE l = 0) : Spec Tryd.prog GC 19 [u8V l] [] (fun r ho => r = SV.tup [.sl 0 0 (decM l).length, SV.i 0] ∧ ho = [some (.rows 67 2 (decM l).length (smpF (decM l)))]) := (decode_any l hl).mono fun r ho h => by
 rcases h with ⟨_, h1, h2⟩ | ⟨h, _⟩
 · exact ⟨h1, h2⟩
 · exact absurd hE h
theorem decode_bad (l : List Int) (hl : Bytes l) (hE : decE l ≠ 0) : Spec Tryd.prog GC 19 [u8V l] [] (fun r ho => r = SV.tup [.d .nils, SV.i (decE l)] ∧ ho = []) := (decode_any l hl).mono fun r ho h => by
 rcases h with ⟨h, _⟩ | ⟨_, h1, h2⟩
 · exact absurd h hE
 · exact ⟨h1, h2⟩
theorem mk_ok (l : List Int) (hl : Bytes l) (hE : decE l = 0) : Spec Tryd.prog GC 18 [u8V l] [] (fun r ho => r = SV.tup [rollS (rR l), SV.i (decE l)] ∧ ho = []) := by
 obtain ⟨hz, hin, hlen⟩ := decM_good hE
 refine start 19 0 Tryd.func18 rfl rfl rfl rfl ?_
 refine r1 <| sT 2 0 1 rfl <| sT 3 8 2 rfl <| e1 16 rfl <| keep [0, 2] rfl <| r1 <| sT 7 16 1 rfl ?_
 refine c1 (decode_ok l hl hE) [] [24] 8 24 2 rfl rfl rfl rfl rfl rfl rfl rfl Tryd.func19 rfl rfl rfl rfl trivial rfl rfl ?_
 refine sT 6 32 3 rfl <| sT 9 40 4 rfl <| sT 10 48 5 rfl <| sT 4 56 6 rfl <| sT 5 64 7 rfl <| e1 72 rfl <| keep [2, 4, 5] rfl <| W_seq <| r1 <| sT 11 72 1 rfl <| sO 12 80 2 rfl <| e1 88 rfl <| keep [2, 4, 5, 12] rfl ?_
 refine q1 rfl (fun hc2 => ?_) (fun hc2 => ?_)
 exact absurd hc2 (by decide)
 try simp only [cs, ne_eq] at hc2
 refine W_skip <| tn ?_
 refine freeze 4 24 (decM l).length rfl rfl (Nat.le_refl _) ?_
 refine r1 <| sT 15 88 1 rfl ?_
 refine c1 (rollOf_any (decM l) hin) [] [] 16 96 2 rfl rfl rfl rfl rfl rfl rfl rfl Tryd.func20 rfl rfl rfl rfl trivial rfl rfl ?_
 refine sT 17 104 3 rfl <| sT 18 112 4 rfl <| s0O 120 5 rfl rfl rfl rfl rfl <| sT 3 128 6 rfl <| e1 136 rfl <| keep [2, 3] rfl <| W_ret ?_
 exact outN (SV.tup [rollS (rR l), SV.i (decE l)]) (π := []) (hout := []) Tryd.results18 rfl (by trivial) (by rw [hE]; unfold rR; rw [if_pos hE]; exact (by rw [hz] : SV.tup [rollS (ofR (decM l)), SV.i (sfault (decM l))] = _)) rfl rfl trivial ⟨rfl, rfl⟩
theorem mk_bad (l : List Int) (hl : Bytes l) (hE : decE l ≠ 0) : Spec Tryd.prog GC 18 [u8V l] [] (fun r ho => r = SV.tup [rollS (rR l), SV.i (decE l)] ∧ ho = []) := by
 refine start 19 0 Tryd.func18 rfl rfl rfl rfl ?_
 refine r1 <| sT 2 0 1 rfl <| sT 3 8 2 rfl <| e1 16 rfl <| keep [0, 2] rfl <| r1 <| sT 7 16 1 rfl ?_
 refine c1 (decode_bad l hl hE) [] [] 8 24 2 rfl rfl rfl rfl rfl rfl rfl rfl Tryd.func19 rfl rfl rfl rfl trivial rfl rfl ?_
 refine sT 6 32 3 rfl <| sT 9 40 4 rfl <| sT 10 48 5 rfl <| sT 4 56 6 rfl <| sT 5 64 7 rfl <| e1 72 rfl <| keep [2, 4, 5] rfl <| W_seq <| r1 <| sT 11 72 1 rfl <| sO 12 80 2 rfl <| e1 88 rfl <| keep [2, 4, 5, 12] rfl ?_
 refine q1 rfl (fun hc2 => ?_) (fun hc2 => ?_)
 try simp only [cs, ne_eq] at hc2
 refine r1 <| sT 13 88 1 rfl <| sT 14 96 2 rfl <| s0O 104 3 rfl rfl rfl rfl rfl <| sT 3 112 4 rfl <| e1 120 rfl <| keep [2, 3] rfl <| W_ret <| tr ?_
 exact outN (SV.tup [rollS (rR l), SV.i (decE l)]) (π := []) (hout := []) Tryd.results18 rfl (by trivial) (by unfold rR; rw [if_neg hE]; rfl) rfl rfl trivial ⟨rfl, rfl⟩
 exact absurd hc2 (by simpa using hE)
theorem mk_any (l : List Int) (hl : Bytes l) : Spec Tryd.prog GC 18 [u8V l] [] (fun r ho => r = SV.tup [rollS (rR l), SV.i (decE l)] ∧ ho = []) := by
 by_cases hE : decE l = 0
 · exact mk_ok l hl hE
 · exact mk_bad l hl hE
def rolT (l : List Int) (k : Nat) : SV := .agg [SV.i k, SV.i (rR l).c, SV.i (rR l).lo, SV.i (rR l).hi, SV.i (rR l).s, SV.i (decE l)]
section
variable {p : Pr} {Pst : Value → World → Prop}
theorem worker42 (hn : p.n < 2147483647) (l : List Int) (hin : Bytes l) (k : Nat) (hT : ∀ M v, (∀ ρ, VR M ρ (rolT l k) v) → p.Tell k M v) : Child Tryd.prog GC p Pst 42 (wkCaps p 18 (.vec 1 l.length (u8F l)) k) (.wk k) := by
 refine child_start (hl := by simp) (hm := rfl) Tryd.func42 rfl rfl (Nat.le_of_ble_eq_true rfl) fun Rd M a w hs hsh => ?_
 have hptr : a.eval (.tmp 0) = .pointer (some ⟨p.Wg, 0, none⟩) := hs.val (x := .tmp 0) rfl
 refine Tr.idle _ rfl (fun _ => stepG_seq) ?_
 refine Tr.idle _ rfl (fun _ => stepG_region) ?_
 refine Tr.idle _ rfl (fun _ => stepG_defer (i := 0) (rest := []) rfl rfl (by simp [baseD]) rfl) ?_
 refine Tr.idle _ rfl (fun _ => stepG_region_end) ?_
 refine Tr.idle _ rfl (fun _ => stepG_seq) ?_
 refine Tr.idle _ rfl (fun _ => stepG_region) ?_
 rw [List.range_eq_range']
 have hs1 : SX ⟨Tryd.prog, 18, 0, GC⟩ no Rd M [dcall 27 #[.pointer (some ⟨p.Wg, 0, none⟩)]] pin0 8 ⟨tOf (argT 0 (wkCaps p 18 (.vec 1 l.length (u8F l)) k)), hOf [], 8⟩ (Act.put ⟨a.tmps, dcall 27 (#[Operand.tmp 0].map a.eval) :: a.defers⟩ none undef) w := by
   have hb := (hs.le (nb' := 8) (by omega)).bump
   refine ⟨hb.fit, hb.sr, ?_, hb.fr⟩
   simp [Act.put, hs.df, hptr]
 refine RX.run (C := ⟨Tryd.prog, 18, 0, GC⟩) (i := 0) (Z := ZB Tryd.prog 42 _) (σ := ⟨tOf (argT 0 (wkCaps p 18 (.vec 1 l.length (u8F l)) k)), hOf [], 8⟩) ?_ hs1 (Nat.le_refl _) (by simp [baseD]) ⟨rfl, rfl, rfl⟩
 refine RX_ops ZB.up [_, _, _, _, _, _, _, _, _] 0 _ (fun j hj => by simp at hj; match j, hj with | 0, _ => rfl | 1, _ => rfl | 2, _ => rfl | 3, _ => rfl | 4, _ => rfl | 5, _ => rfl | 6, _ => rfl | 7, _ => rfl | 8, _ => rfl) ?_
 refine sV 8 8 1 rfl (by decide) ?_
 refine sV 9 16 2 rfl (by decide) ?_
 refine c1f (mk_any l hin) [] 10 24 3 rfl rfl rfl rfl rfl rfl rfl rfl Tryd.func18 rfl rfl rfl rfl rfl ?_
 refine sT 7 32 4 rfl <| sT 11 40 5 rfl <| sT 12 48 6 rfl <| sT 5 56 7 rfl ?_
 refine s0 64 8 rfl rfl rfl rfl rfl trivial ?_
 refine sT 6 72 9 rfl <| e1 80 rfl ?_
 intro A' M' ρ' a' w' hs' b kk cs hb ⟨hb1, hcs, hk⟩
 subst hb1 hcs hk
 refine Tr.idle _ rfl (fun _ => stepG_region_end) ?_
 refine Tr.idle _ rfl (fun _ => stepG_region) ?_
 rw [List.range_eq_range']
 have hs3 := hs'.bump.sub (π := [56]) (tl := [(3, .vp 1 1 (fun _ _ => .val (.chan (some p.Ch))) 0 0), (4, .vp 1 1 (fun _ _ => .val (.int .i64 k)) 0 0), (5, .ptr 0 0 0), (6, SV.i (decE l))]) (hl := [some (rollBlk (rR l))]) ⟨rfl, ⟨rfl, rfl, rfl, rfl, trivial⟩, ⟨rfl, trivial⟩⟩
 refine RX.run (C := ⟨Tryd.prog, 18, 0, GC⟩) (i := 0) (Z := ZB Tryd.prog 42 []) (σ := stOf [(3, .vp 1 1 (fun _ _ => .val (.chan (some p.Ch))) 0 0), (4, .vp 1 1 (fun _ _ => .val (.int .i64 k)) 0 0), (5, .ptr 0 0 0), (6, SV.i (decE l))] [some (rollBlk (rR l))]) ?_ hs3 (Nat.le_refl _) (by simp [baseD]) ⟨rfl, rfl, rfl⟩
 refine RX_ops ZB.up [_, _, _, _, _] 0 _ (fun j hj => by simp at hj; match j, hj with | 0, _ => rfl | 1, _ => rfl | 2, _ => rfl | 3, _ => rfl | 4, _ => rfl) ?_
 refine sV 13 1 1 rfl (by decide) ?_
 refine sV 14 9 2 rfl (by decide) ?_
 refine sT 15 17 3 rfl <| sT 16 25 4 rfl <| sT 17 33 5 rfl <| e1 49 rfl ?_
 refine RX_send (T := rolT l k) rfl rfl rfl rfl rfl rfl hT (fun M w b kk cs a hz hd w₁ hlv => ?_)
 obtain ⟨rfl, rfl, rfl⟩ := hz
 obtain ⟨T, d⟩ := a
 simp only at hd
 subst hd
 exact worker_tail YtpdojmebloekgaaDoor.wgLib hn Tryd.func42 rfl hlv
end
end Go.Proofs.YtpdojmebloekgaaDoor.Nice.Co
namespace Go.Proofs.YtpdojmebloekgaaDoor.Nice.Co
open Go Go.Conc Go.Conc.Lib
open Go.ConcR (KK WgAt stA smA mk DC0)
open Go.ConcR.Gen (body_add)
set_option linter.unusedVariables false
set_option linter.unusedSimpArgs false
def un (A X : Blks) : Blks := fun b => A b ∨ X b
def Has (O : Imm) (w : World) : Prop := ∀ b o, O b = some o → w.heap[b]? = some o
structure Aside where
 X : Blks
 O : Imm
 at_ : ∀ b, X b → O b ≠ none
def Disj (s : Aside) (A Rd : Blks) : Prop := ∀ b, s.X b → ¬ A b ∧ ¬ Rd b
theorem Has.keep {s : Aside} {A Rd : Blks} {w w₁ : World} (h : Has s.O w) (hX : ∀ b, s.O b ≠ none → s.X b) (r : Rely (un A s.X) Rd w w₁) : Has s.O w₁ := fun b o hb => by
 rw [r.keep b (.inl (.inr (hX b (by rw [hb]; simp))))]; exact h b o hb
theorem more_un (A X : Blks) (w w' : World) : more (un A X) w w' = un (more A w w') X := by
 funext b; apply propext
 unfold more un
 constructor
 · rintro ((h | h) | h)
   · exact .inl (.inl h)
   · exact .inr h
   · exact .inl (.inr h)
 · rintro ((h | h) | h)
   · exact .inl (.inl h)
   · exact .inr h
   · exact .inl (.inr h)
theorem Rely.less {A A' Rd : Blks} {w w₁ : World} (r : Rely A Rd w w₁) (h : ∀ b, A' b → A b) : Rely A' Rd w w₁ := ⟨r.same, fun b hb => r.keep b (hb.imp (h b) id)⟩
theorem EvOk.un {A X Rd : Blks} {e : Event} (h : EvOk A Rd e) : EvOk (un A X) Rd e := by
 rcases h with ⟨ad, s, rfl, h⟩ | ⟨ad, s, rfl, h⟩ | rfl
 · exact .inl ⟨ad, s, rfl, h.imp .inl id⟩
 · exact .inr (.inl ⟨ad, s, rfl, .inl h⟩)
 · exact .inr (.inr rfl)
def frX {P : Program} (s : Aside) (hX : ∀ b, s.O b ≠ none → s.X b) (K : Tr P) : Tr P where
 main := K.main
 Rd := K.Rd
 T := fun A g w => Disj s A K.Rd → ∀ w', Rely A K.Rd w w' → Has s.O w' → K.T (un A s.X) g w'
 step := fun A g w hs h hd w' hr hw' => by
   refine K.step _ g w' hs fun w₁ h₁ => ?_
   have hw₁ := hw'.keep hX h₁
   obtain ⟨g', w'', es, a, b, c⟩ := h w₁ (hr.trans (h₁.less fun b => .inl))
   have hold : ∀ b, s.X b → b < w₁.heap.size := fun b hb => by
     obtain ⟨o, ho⟩ := Option.ne_none_iff_exists'.1 (s.at_ b hb)
     exact (Array.getElem?_eq_some_iff.1 (hw₁ b o ho)).1
   have hw2 : Has s.O w'' := fun q o hb => by
     have hx := hX q (by rw [hb]; simp)
     rw [b.keep q (hold q hx) (hd q hx).1]; exact hw₁ q o hb
   refine ⟨g', w'', es, a, ⟨b.same, fun x hx hn => b.keep x hx fun h => hn (.inl h), fun e he => (b.evs e he).un⟩, ?_⟩
   rw [more_un]
   exact c (fun x hx => ⟨fun hm => hm.elim (hd x hx).1 fun hm => by have := hold x hx; omega, (hd x hx).2⟩) w'' (.refl w'') hw2
 rely := fun A g w w₁ h r hd w' hr hw' => h hd w' (r.trans hr) hw'
section
variable {P : Program} {p : Pr} {Pst : Value → World → Prop} {main : Bool} {Rd A : Blks} {d : Nat} {lo : Lo} {hl : lo ≠ .out} {hm : lo.mute = false} {g : Goroutine} {w : World} {s : Aside} {hX : ∀ b, s.O b ≠ none → s.X b}
theorem frRun.intro (h : Disj s A Rd → Apt p (un A s.X) Rd → ∀ w₁, Rely A Rd w w₁ → Has s.O w₁ → WgLv p w₁ → Run P p Pst main ⟨un A s.X, Rd, d, lo⟩ g w₁) : (frX s hX (trRun P p Pst main Rd d lo hl hm)).T A g w :=
 fun hd w' hr hw' ha w₁ h₁ hl₁ => h hd ha w₁ (hr.trans (h₁.less fun b => .inl)) (hw'.keep hX h₁) hl₁
theorem frRun.elim (h : (frX s hX (trRun P p Pst main Rd d lo hl hm)).T A g w) (hd : Disj s A Rd) (hw : Has s.O w) (ha : Apt p (un A s.X) Rd) (hl₁ : WgLv p w) : Run P p Pst main ⟨un A s.X, Rd, d, lo⟩ g w := h hd w (.refl w) hw ha w (.refl w) hl₁
theorem Apt.less {A' : Blks} (h : Apt p A Rd) (k : ∀ b, A' b → A b) : Apt p A' Rd := fun b hb => h b (hb.imp (k b) id)
theorem Has.lt (hw : Has s.O w) {b : Nat} (hb : s.X b) : b < w.heap.size := by
 obtain ⟨o, ho⟩ := Option.ne_none_iff_exists'.1 (s.at_ b hb)
 exact (Array.getElem?_eq_some_iff.1 (hw b o ho)).1
theorem Has.made {w' : World} {o : Obj} (hw : Has s.O w) (m : Made w w' o) : Has s.O w' := fun b o hb => by
 have hlt := (Array.getElem?_eq_some_iff.1 (hw b o hb)).1
 rw [m.keep b hlt]; exact hw b o hb
theorem un_give {M : Imm} (hd : Disj s A Rd) : (fun b => un A s.X b ∧ ¬ (A b ∧ M b ≠ none)) = un (fun b => A b ∧ ¬ (A b ∧ M b ≠ none)) s.X := by
 funext b; apply propext
 unfold un
 constructor
 · rintro ⟨h | h, k⟩
   · exact .inl ⟨h, k⟩
   · exact .inr h
 · rintro (⟨h, k⟩ | h)
   · exact ⟨.inl h, k⟩
   · exact ⟨.inr h, fun k => (hd b h).1 k.1⟩
theorem Disj.give {M : Imm} (hd : Disj s A Rd) : Disj s (fun b => A b ∧ ¬ (A b ∧ M b ≠ none)) (fun b => Rd b ∨ (A b ∧ M b ≠ none)) := fun b hb =>
 ⟨fun h => (hd b hb).1 h.1, fun h => h.elim (hd b hb).2 fun h => (hd b hb).1 h.1⟩
theorem Apt.giveX {M : Imm} (h : Apt p (un A s.X) Rd) : Apt p (un (fun b => A b ∧ ¬ (A b ∧ M b ≠ none)) s.X) (fun b => Rd b ∨ (A b ∧ M b ≠ none)) := by
 intro b hb
 rcases hb with (⟨x, _⟩ | x) | x | ⟨x, _⟩
 · exact h b (.inl (.inl x))
 · exact h b (.inl (.inr x))
 · exact h b (.inr x)
 · exact h b (.inl (.inl x))
end
section
variable {C : Ctx} {Z : ZX} {ds : List Deferred} {σ : St} {ops : Array Oper} {i : Nat} {o : Oper} {Rd : Blks} {Pst : Value → World → Prop} {s : Aside} {hX : ∀ b, s.O b ≠ none → s.X b}
theorem FX_makeChan (hZ : Up Z) (ho : ops[i]? = some o) (hg : o.guard = none) {ty e : TypeId} {dir : ChanDir} {inf : TypeInfo} {x : Operand} (hop : o.op = .makeChan ty x) (hx : opv C σ.t x = SV.i 0) (ht : C.P.underlying ty = some (.chan dir e)) (hi : C.P.info? e = some inf)
   (hd : (match o.dst with | none => true | some d => Nat.blt d C.sz) = true) (h : ∀ Ch, RX C ops (i + 1) Z (frX s hX (trPre C.P Pst Rd (.p1 Ch))) ds (σ.app o.dst (.d (.val (.chan (some Ch)))) [])) : RX C ops i Z (frX s hX (trPre C.P Pst Rd .p0)) ds σ := by
 refine RX_step ho fun A M ρ a w hs b k cs hb hz => fun hdj w' hr hw => ?_
 refine PreT.intro (.mkCh rfl rfl fun w₁ h₁ => ?_)
 have h₁A : Rely A Rd w w₁ := Rely.trans hr (h₁.less fun b => .inl)
 have hs₁ := SX.rely hs h₁A
 have hw₁ := hw.keep hX h₁
 have hv : a.eval x = .int .i64 0 := hs₁.val hx
 have hrun : (execOp a.eval o).run C.P w₁ = .ok (.value (.chan (some w₁.heap.size))) (w₁.alloc chObj) := by
   have := run_makeChan (w := w₁) ht hi .i64 0 (by omega) (by simp)
   simp [execOp, hop, hv]
   simp only [Int.ofNat_zero, Int.natCast_zero, Int.cast_ofNat_Int] at this
   rw [this]; rfl
 have hev : (execOp a.eval o).events C.P w₁ #[] = #[] := by
   have := events_makeChan (w := w₁) ht hi .i64 0 (by omega) (by simp) #[]
   simp [execOp, hop, hv]
   simp only [Int.ofNat_zero, Int.natCast_zero, Int.cast_ofNat_Int] at this
   rw [this]
 refine ⟨_, _, step_value ho hg hb hrun hev, made_alloc _ _, ?_⟩
 have r := (made_alloc w₁ chObj).rely (A := A) (Rd := Rd) (M := M) hs₁.ltAll
 exact h w₁.heap.size A M ρ _ _ ((SX.rely hs₁ r).put hd (.d _ _ (.val _ rfl)) (by show σ.nx + 8 * i ≤ σ.nx + 8 * (i + 1); omega)) b k cs hb (hZ _ _ _ _ _ _ _ hz (Imm.le_refl _) (h₁A.same.trans r.same)) hdj _ (.refl _) (hw₁.made (made_alloc _ _))
theorem FX_allocWg (hZ : Up Z) (ho : ops[i]? = some o) (hg : o.guard = none) {ty : TypeId} (hop : o.op = .alloc ty) (hrun : ∀ w, (Instr.alloc ty true (.tuple #[])).run C.P w = .ok (.pointer (some ⟨w.heap.size, 0, none⟩)) (w.alloc (wgObj ty))) (hev : ∀ w, (Instr.alloc ty true (.tuple #[])).events C.P w #[] = #[])
   (hd : (match o.dst with | none => true | some d => Nat.blt d C.sz) = true) {Ch : Nat} (n : Nat) (Tell : Nat → Imm → Value → Prop) {hl : Lo.spawn 0 false ≠ .out} {hm : (Lo.spawn 0 false).mute = false}
   (h : ∀ Wg, RX C ops (i + 1) Z (frX s hX (trRun C.P ⟨n, Wg, Ch, ty, Tell⟩ Pst true Rd 0 (.spawn 0 false) hl hm)) ds (σ.app o.dst (.d (.val (.pointer (some ⟨Wg, 0, none⟩)))) [])) : RX C ops i Z (frX s hX (trPre C.P Pst Rd (.p1 Ch))) ds σ := by
 refine RX_step ho fun A M ρ a w hs b k cs hb hz => fun hdj w' hr hw => ?_
 refine PreT.intro (.mkWg rfl Ch ty rfl fun w₁ h₁ => ?_)
 have h₁A : Rely A Rd w w₁ := Rely.trans hr (h₁.less fun b => .inl)
 have hs₁ := SX.rely hs h₁A
 have hw₁ := hw.keep hX h₁
 have hr' : (execOp a.eval o).run C.P w₁ = .ok (.value (.pointer (some ⟨w₁.heap.size, 0, none⟩))) (w₁.alloc (wgObj ty)) := by
   simp [execOp, hop, hrun]
 have he : (execOp a.eval o).events C.P w₁ #[] = #[] := by simp [execOp, hop, hrun, hev]
 refine ⟨_, _, step_value ho hg hb hr' he, made_alloc _ _, ?_⟩
 have r := (made_alloc w₁ (wgObj ty)).rely (A := A) (Rd := Rd) (M := M) hs₁.ltAll
 have hT := h w₁.heap.size A M ρ _ _ ((SX.rely hs₁ r).put hd (u := .d (.val (.pointer (some ⟨w₁.heap.size, 0, none⟩)))) (.d _ _ (.val _ rfl)) (by show σ.nx + 8 * i ≤ σ.nx + 8 * (i + 1); omega)) b k cs hb (hZ _ _ _ _ _ _ _ hz (Imm.le_refl _) (h₁A.same.trans r.same))
 exact PreT.intro (.start ⟨n, w₁.heap.size, Ch, ty, Tell⟩ rfl fun ha w₂ h₂ hl₂ => hT hdj _ (.refl _) (hw₁.made (made_alloc _ _)) ha w₂ h₂ hl₂)
section
variable {p : Pr} {caps : List SV} {f : FuncId} {x : Operand}
theorem FX_spawnW (hZ : Up Z) (ho : ops[i]? = some o) (hg : o.guard = none) (hop : o.op = .go { callee := .value x, args := #[], argTypes := #[] }) (hdst : o.dst = none) (hx : opv C σ.t x = .fn f caps) (hcaps : ∀ y, y ∈ caps → SV.dataB y = true) {j : Nat}
   {hl : Lo.spawn j true ≠ .out} {hm : (Lo.spawn j true).mute = false} {hl' : Lo.spawn (j + 1) false ≠ .out} {hm' : (Lo.spawn (j + 1) false).mute = false}
   (hch : Child C.P C.G p Pst f caps (.wk j)) (h : ∀ Rd', RX C ops (i + 1) Z (frX s hX (trRun C.P p Pst true Rd' 0 (.spawn (j + 1) false) hl' hm')) ds σ) : RX C ops i Z (frX s hX (trRun C.P p Pst true Rd 0 (.spawn j true) hl hm)) ds σ := by
 refine RX_step ho fun A M ρ a w hs b k cs hb hz => frRun.intro fun hdj hA w₁ h₁ hw hlv => ?_
 refine Run.intro (.spawnW rfl rfl j rfl rfl fun w₂ h₂ => ?_)
 have h₂A := h₂.ry.less (A' := A) fun b => .inl
 have hs₂ := SX.rely (SX.rely hs h₁) h₂A
 have hlv₂ := h₂.wg hlv
 have hw₂ := hw.keep hX h₂.ry
 obtain ⟨vs, hq, hvs, hvr⟩ := fn_case (by have := hs₂.op x; rw [hx] at this; exact this)
 refine ⟨fun b => A b ∧ M b ≠ none, _, _, fun b hb => .inl hb.1, step_go ho hg hb hop hq, ?_, hch _ M w₂ vs hs₂.sr.gl hs₂.shared (Apt.give (hA.less fun b => .inl)).2 hlv₂ hvs fun j y hy => ?_⟩
 · rw [hdst, un_give hdj]
   refine frRun.elim (h (fun b => Rd b ∨ (A b ∧ M b ≠ none)) (fun b => A b ∧ ¬ (A b ∧ M b ≠ none)) M ρ a w₂ ?_ b k cs hb (hZ _ _ _ _ _ _ _ hz (Imm.le_refl _) (h₁.same.trans h₂.ry.same))) hdj.give hw₂ hA.giveX hlv₂
   have g := hs₂.give
   exact ⟨g.fit, g.sr, g.df, fun n hn => g.fr n (by have hn' : σ.nx + 8 * (i + 1) ≤ n := hn; omega)⟩
 · obtain ⟨u, h1, h2⟩ := hvr j y hy
   exact ⟨u, h1, fun ρ' => VR.other h2 (hcaps y (List.mem_of_getElem? hy))⟩
theorem FX_spawnC (hZ : Up Z) (ho : ops[i]? = some o) (hg : o.guard = none) (hop : o.op = .go { callee := .value x, args := #[], argTypes := #[] }) (hdst : o.dst = none) (hx : opv C σ.t x = .fn f caps) (hcaps : ∀ y, y ∈ caps → SV.dataB y = true)
   {hl : Lo.spawn p.n false ≠ .out} {hm : (Lo.spawn p.n false).mute = false} {hl' : Lo.recv [] ≠ .out} {hm' : (Lo.recv []).mute = false}
   (hch : Child C.P C.G p Pst f caps (.cw p.n)) (h : ∀ Rd', RX C ops (i + 1) Z (frX s hX (trRun C.P p Pst true Rd' 0 (.recv []) hl' hm')) ds σ) : RX C ops i Z (frX s hX (trRun C.P p Pst true Rd 0 (.spawn p.n false) hl hm)) ds σ := by
 refine RX_step ho fun A M ρ a w hs b k cs hb hz => frRun.intro fun hdj hA w₁ h₁ hw hlv => ?_
 refine Run.intro (.spawnC rfl rfl rfl rfl fun w₂ h₂ => ?_)
 have h₂A := h₂.ry.less (A' := A) fun b => .inl
 have hs₂ := SX.rely (SX.rely hs h₁) h₂A
 have hlv₂ := h₂.wg hlv
 have hw₂ := hw.keep hX h₂.ry
 obtain ⟨vs, hq, hvs, hvr⟩ := fn_case (by have := hs₂.op x; rw [hx] at this; exact this)
 refine ⟨fun b => A b ∧ M b ≠ none, _, _, fun b hb => .inl hb.1, step_go ho hg hb hop hq, ?_, hch _ M w₂ vs hs₂.sr.gl hs₂.shared (Apt.give (hA.less fun b => .inl)).2 hlv₂ hvs fun j y hy => ?_⟩
 · rw [hdst, un_give hdj]
   refine frRun.elim (h (fun b => Rd b ∨ (A b ∧ M b ≠ none)) (fun b => A b ∧ ¬ (A b ∧ M b ≠ none)) M ρ a w₂ ?_ b k cs hb (hZ _ _ _ _ _ _ _ hz (Imm.le_refl _) (h₁.same.trans h₂.ry.same))) hdj.give hw₂ hA.giveX hlv₂
   have g := hs₂.give
   exact ⟨g.fit, g.sr, g.df, fun n hn => g.fr n (by have hn' : σ.nx + 8 * (i + 1) ≤ n := hn; omega)⟩
 · obtain ⟨u, h1, h2⟩ := hvr j y hy
   exact ⟨u, h1, fun ρ' => VR.other h2 (hcaps y (List.mem_of_getElem? hy))⟩
theorem FX_add (hZ : Up Z) {L : WgLink} (H : WgLib C.P L) (ho : ops[i]? = some o) (hg : o.guard = none) {y : Operand} {tys : Array TypeId} (hop : o.op = .call { callee := .value (.func L.add), args := #[x, y], argTypes := tys }) (hx : opv C σ.t x = .d (.val (.pointer (some ⟨p.Wg, 0, none⟩)))) (hy : opv C σ.t y = SV.i 1)
   (hd : (match o.dst with | none => true | some d => Nat.blt d C.sz) = true) {j : Nat} (hj : j < p.n) (hn : p.n < 2147483647)
   {hl : Lo.spawn j false ≠ .out} {hm : (Lo.spawn j false).mute = false} {hl' : Lo.spawn j true ≠ .out} {hm' : (Lo.spawn j true).mute = false}
   (h : RX C ops (i + 1) Z (frX s hX (trRun C.P p Pst true Rd 0 (.spawn j true) hl' hm')) ds (σ.app o.dst .any [])) : RX C ops i Z (frX s hX (trRun C.P p Pst true Rd 0 (.spawn j false) hl hm)) ds σ := by
 refine RX_step ho fun A M ρ a w hs b k cs hb hz => frRun.intro fun hdj hA w₁ h₁ hw hlv => ?_
 refine Run.intro (.own rfl (by simp) fun w₂ h₂ => ?_)
 have h₂A := h₂.ry.less (A' := A) fun b => .inl
 have hs₂ := SX.rely (SX.rely hs h₁) h₂A
 have hlv₂ := h₂.wg hlv
 have hw₂ := hw.keep hX h₂.ry
 have e1 := hs₂.val hx
 have e2 := hs₂.val (v := .int .i64 1) hy
 have hb' : (addFn L).body.isNone = false := rfl
 have hrun : (execOp a.eval o).run C.P w₂ = .ok (.enter L.add #[.pointer (some ⟨p.Wg, 0, none⟩), .int .i64 1]) w₂ := by
   rw [run_call_body hop H.f_add (Go.ConcR.Gen.nm_add L) hb']
   simp [e1, e2]
 have hev : (execOp a.eval o).events C.P w₂ #[] = #[] := events_call_body hop H.f_add (Go.ConcR.Gen.nm_add L) hb' _
 refine ⟨_, w₂, #[], (stepG_enter ho (wanted_none hg) hb hrun).trans (by unfold listed; rw [hev, seen_none]), fun _ => rfl, Guar.idle _, ?_⟩
 rw [more_self, enter_at _ H.f_add (c := body_add L) rfl]
 refine wg_add H hA hj hn hlv₂ fun w' r hlv' => ?_
 have rA : Rely A Rd w₂ w' := Rely.less r fun b => .inl
 have hT := h A M ρ (a.put o.dst (.tuple #[])) w' ((SX.rely hs₂ rA).put hd (.any _) (by show σ.nx + 8 * i ≤ σ.nx + 8 * (i + 1); omega)) b k cs hb (hZ _ _ _ _ _ _ _ hz (Imm.le_refl _) (h₁.same.trans (h₂.ry.same.trans r.same)))
 have e : (ops[i]?).bind (·.dst) = o.dst := by rw [ho]; rfl
 rw [e]
 exact frRun.elim hT hdj (hw₂.keep hX r) hA hlv'
theorem FX_recv (hZ : Up Z) (ho : ops[i]? = some o) (hg : o.guard = none) {ty e : TypeId} {dir : ChanDir} {z : Value} (hop : o.op = .recv ty x true) (hx : opv C σ.t x = .d (.val (.chan (some p.Ch)))) (hu : ∀ w, (underlying ty).run C.P w = .ok (.chan dir e) w) (hue : ∀ w, (underlying ty).events C.P w #[] = #[]) (hz0 : ∀ w, (zeroValue e).run C.P w = .ok z w) (hz1 : ∀ w, (zeroValue e).events C.P w #[] = #[])
   (hd : (match o.dst with | none => true | some d => Nat.blt d C.sz) = true) (T : Nat → SV) (hT : ∀ k M v, p.Tell k M v → ∀ ρ, VR M ρ (T k) v) {J : List Nat}
   {hl : Lo.recv J ≠ .out} {hm : (Lo.recv J).mute = false} {hl1 : ∀ k, Lo.recv (k :: J) ≠ .out} {hm1 : ∀ k, (Lo.recv (k :: J)).mute = false} {hl2 : Lo.fin ≠ .out} {hm2 : Lo.fin.mute = false}
   (hgot : ∀ k Rd', k < p.n → k ∉ J → RX C ops (i + 1) Z (frX s hX (trRun C.P p Pst true Rd' 0 (.recv (k :: J)) (hl1 k) (hm1 k))) ds (σ.app o.dst (.tup [T k, SV.b true]) []))
   (hend : (∀ k, k < p.n → k ∈ J) → RX C ops (i + 1) Z (frX s hX (trRun C.P p Pst true Rd 0 .fin hl2 hm2)) ds (σ.app o.dst (.tup [.any, SV.b false]) [])) : RX C ops i Z (frX s hX (trRun C.P p Pst true Rd 0 (.recv J) hl hm)) ds σ := by
 refine RX_step ho fun A M ρ a w hs b k cs hb hzz => frRun.intro fun hdj hA w₁ h₁ hw hlv => ?_
 have hs₁ := SX.rely hs h₁
 have e1 := hs₁.val hx
 refine Run.intro (.recv rfl J (G (b.at a (.inRegion ops (i :: List.range' (i + 1) (ops.size - (i + 1))) :: k)) cs) z ⟨rfl, rfl, rfl, .refl _, fun w₂ h₂ => ?_, fun k' M' v w₂ h₂ hkn hkJ ht hh hap => ?_, fun w₂ h₂ hall => ?_⟩)
 · have hrun : (execOp a.eval o).run C.P w₂ = .ok (.comm #[rcase p.Ch z] true (.recv true)) w₂ := by
     simp [execOp, hop, hu, hz0, e1, rcase]
   have hev : (execOp a.eval o).events C.P w₂ #[] = #[] := by
     simp [execOp, hop, hu, hue, hz0, hz1, e1]
   rw [stepG_comm ho (wanted_none hg) hb hrun]
   unfold listed
   rw [hev, seen_none]
 · have h₂A := h₂.ry.less (A' := A) fun b => .inl
   have hs₂ := SX.rely hs₁ h₂A
   have hlv₂ := h₂.wg hlv
   have hw₂ := hw.keep hX h₂.ry
   rw [served_G ho]
   have hap' : ∀ b, M' b ≠ none → ¬ un A s.X b := fun b hb => (hap b hb).1
   obtain ⟨M2, l1, l2, l3, H2⟩ := hr_learn hs₂.sr.hr hs₂.fit hh (fun b hb h => hap' b hb (.inl h))
   have hA2 : Apt p (un A s.X) (fun b => Rd b ∨ M' b ≠ none) := fun b hb => by
     rcases hb with hb | hb | hb
     · exact hA b (.inl hb)
     · exact hA b (.inr hb)
     · exact (hap b hb).2
   refine frRun.elim (hgot k' (fun b => Rd b ∨ M' b ≠ none) hkn hkJ A M2 ρ _ w₂ ?_ b k cs hb (hZ _ _ _ _ _ _ _ hzz l1 (h₁.same.trans h₂.ry.same))) (fun b hb => ⟨(hdj b hb).1, fun h => h.elim (hdj b hb).2 fun h => hap' b h (.inr hb)⟩) hw₂ hA2 hlv₂
   refine hs₂.app (wr := []) hd ⟨fun b hb => absurd rfl hb, fun b hb => ?_, hs₂.fit.lt⟩ l1 (Names.le_refl _) ?_ H2 (fun n hn => hs₂.fr n (by have hn' : σ.nx + 8 * (i + 1) ≤ n := hn; omega))
   · rcases hb with hb | hb
     · obtain ⟨o', ho'⟩ := Option.ne_none_iff_exists'.1 (hs₂.fit.rm b hb)
       rw [l1 b o' ho']; simp
     · obtain ⟨o', ho'⟩ := Option.ne_none_iff_exists'.1 hb
       rw [l2 b o' ho']; simp
   · exact VR.pair ((hT k' M' v ht ρ).mono l2 (Names.le_refl _)) (.d _ _ (.val _ rfl))
 · have h₂A := h₂.ry.less (A' := A) fun b => .inl
   have hs₂ := SX.rely hs₁ h₂A
   have hlv₂ := h₂.wg hlv
   have hw₂ := hw.keep hX h₂.ry
   rw [served_G ho]
   refine frRun.elim (hend hall A M ρ _ w₂ ?_ b k cs hb (hZ _ _ _ _ _ _ _ hzz (Imm.le_refl _) (h₁.same.trans h₂.ry.same))) hdj hw₂ hA hlv₂
   exact hs₂.put hd (VR.pair (.any _) (.d _ _ (.val _ rfl))) (by show σ.nx + 8 * i ≤ σ.nx + 8 * (i + 1); omega)
end
end
theorem hr_back {A Rd A' Rd' : Blks} {M M' : Imm} {ρ : Names} {h : Heap} {w w' : World} (H : HR M (ext A Rd F0 w) ρ h w) (f : Fit A Rd F0 M w) (hM : M.le M') (hold : ∀ b, A b → M b = none → w'.heap[b]? = w.heap[b]?) (hsub : ∀ b, A b → M b = none → A' b)
   (hMn : ∀ b, A b → M b = none → M' b = none) (hi : Holds M' w') (hdom : ∀ b, M' b ≠ none → A' b ∨ Rd' b) (hsz : w.heap.size ≤ w'.heap.size) : HR M' (ext A' Rd' F0 w') ρ h w' := by
 have exA : ∀ b, A' b → ext A' Rd' F0 w' b = none := fun b hb => by rw [ext_in (.inl hb)]
 refine ⟨hi, fun b o hb => ?_, fun b o hb => ?_, fun n blk hn => ?_, H.sep, ?_⟩
 · by_cases e : A' b ∨ Rd' b
   · rw [ext_in e] at hb; cases hb
   · rw [ext_out e] at hb; exact hb
 · by_cases e : A' b ∨ Rd' b
   · rw [ext_in e] at hb; cases hb
   · exact Classical.byContradiction fun hc => e (hdom b hc)
 · obtain ⟨x, hx, hr⟩ := H.live n blk hn
   refine ⟨x, hx, ?_⟩
   rcases hr with hr | ⟨h0, h1, h2, o, h3, h4⟩
   · exact .inl hr
   · have ha := own_A f h1 h2 h3
     exact .inr ⟨h0, hMn _ ha h1, exA _ (hsub _ ha h1), o, by rw [hold _ ha h1]; exact h3, h4.mono hM (Names.le_refl _)⟩
 · refine H.famKeep (fun _ _ _ h => h) (Names.le_refl _) hM hsz (fun n S es hn b hb g1 g2 => ?_) (fun n S es x c _ hn hx h0 hc => ?_) (fun _ _ _ m y _ a b _ => .inl ⟨a, b⟩)
   · obtain ⟨_, _, _, k1, _⟩ := H.fam n S es hn
     obtain ⟨_, _, k3⟩ := k1 b hb
     have ha := own_A f g1 g2 (Array.getElem?_eq_getElem k3)
     exact ⟨hMn _ ha g1, exA _ (hsub _ ha g1)⟩
   · rcases hc with rfl | hc
     · obtain ⟨x', hx', hr⟩ := H.live n _ hn
       rw [hx] at hx'; obtain rfl := Option.some.inj hx'
       rcases hr with ⟨h00, _⟩ | ⟨_, h1, h2, o, h3, _⟩
       · omega
       · exact hold _ (own_A f h1 h2 h3) h1
     · obtain ⟨_, _, _, k1, _⟩ := H.fam n S es hn
       obtain ⟨m1, k2, k3⟩ := k1 c hc
       exact hold _ (own_A f m1 k2 (Array.getElem?_eq_getElem k3)) m1
section
variable {C : Ctx} {Z : ZX} {ds : List Deferred} {σ : St} {ops : Array Oper} {i : Nat} {o : Oper} {K : Tr C.P} {x : Operand}
open Classical in
theorem RX_callF (hZ : Up Z) (ho : ops[i]? = some o) (hg : o.guard = none) {f : FuncId} {fn : Func} {cargs : Array Operand} {tys : Array TypeId} (hop : o.op = .call { callee := .value x, args := cargs, argTypes := tys }) (hx : opv C σ.t x = .fn f []) (hf : C.P.funcs[f]? = some fn) (hfn : fnOK fn = true)
   {args : List SV} {Pr : SV → Prop} {Q : Tr C.P → Prop} (hF : ∀ s hX, SpecX C.P C.G f args (frX s hX K) (fun K' r => Pr r ∧ ∃ K'', K' = frX s hX K'' ∧ Q K'')) (hargs : mapV (opv C σ.t) cargs.toList = args) (hfree : ∀ y, y ∈ args → Free y) (hd : (match o.dst with | none => true | some d => Nat.blt d C.sz) = true)
   (h : ∀ (K' : Tr C.P) r, Pr r → Q K' → RX C ops (i + 1) Z K' ds (σ.app o.dst r [])) : RX C ops i Z K ds σ := by
 refine RX_step ho fun A M ρ a w hs b k cs hb hz => ?_
 refine K.step A _ w rfl fun w₁ h₁ => ?_
 have hs₁ := hs.rely h₁
 have hvx := hs₁.op x
 rw [hx] at hvx
 obtain ⟨vs, hq, hvs, hvr⟩ := fn_case hvx
 have hvs0 : vs = #[] := Array.eq_empty_of_size_eq_zero (by simpa using hvs)
 subst hvs0
 have hrel := mapV_rel (M := M) (ρ := ρ) (a := a) (v := opv C σ.t) (xs := cargs) (fun y hy => hs₁.op y)
 obtain ⟨hrun, hev⟩ := run_enter (P := C.P) (w := w₁) (a := a) hop hq hf hfn
 have hl : listed C.P b.fn a o w₁ = #[] := by unfold listed; rw [hev]; exact seen_none _ _
 refine ⟨_, w₁, #[], (stepG_enter ho (wanted_none hg) hb hrun).trans (by rw [hl]), Guar.idle w₁, ?_⟩
 rw [more_self]
 subst hargs
 have hlt : ∀ b, A b → ∃ o, w₁.heap[b]? = some o := fun b hb => ⟨_, Array.getElem?_eq_getElem (hs₁.fit.lt b hb)⟩
 let s : Aside := ⟨fun b => A b ∧ M b = none, fun b => if A b ∧ M b = none then w₁.heap[b]? else none, fun b hb => by
   obtain ⟨o, ho⟩ := hlt b hb.1
   show (if A b ∧ M b = none then w₁.heap[b]? else none) ≠ none
   rw [if_pos hb, ho]; simp⟩
 have sX : ∀ b, s.X b = (A b ∧ M b = none) := fun b => rfl
 have sO : ∀ b, s.O b = if A b ∧ M b = none then w₁.heap[b]? else none := fun b => rfl
 have hX : ∀ b, s.O b ≠ none → s.X b := fun b hb => by
   rw [sO] at hb
   by_cases e : A b ∧ M b = none
   · exact e
   · rw [if_neg e] at hb; exact absurd rfl hb
 have hAX : un (fun b => A b ∧ M b ≠ none) s.X = A := by
   funext b; apply propext
   unfold un
   rw [sX]
   constructor
   · rintro (h | h)
     · exact h.1
     · exact h.1
   · intro hb
     by_cases e : M b = none
     · exact .inr ⟨hb, e⟩
     · exact .inl ⟨hb, e⟩
 have hdj : Disj s (fun b => A b ∧ M b ≠ none) K.Rd := fun b hb => ⟨fun h => h.2 hb.2, fun h => hs₁.fit.rm b h hb.2⟩
 have hO : Has s.O w₁ := fun b o hb => by
   rw [sO] at hb
   by_cases e : A b ∧ M b = none
   · rw [if_pos e] at hb; exact hb
   · rw [if_neg e] at hb; cases hb
 have key := hF s hX (fun b => A b ∧ M b ≠ none) M (cargs.map a.eval ++ #[]) w₁ ⟨fun b hb => absurd rfl hb, hs₁.fit.rm, fun b hb => hs₁.fit.lt b hb.1⟩ hs₁.sr.gl hs₁.holds (fun b hb => (hs₁.domM hb).imp (fun h => ⟨h, hb⟩) id) (by simp [mapV_length]) (fun j y hy => ?_) ((b.at a (.inRegion ops (i :: List.range' (i + 1) (ops.size - (i + 1))) :: k))) cs ?_
 · have := key hdj w₁ (.refl w₁) hO
   rw [hAX] at this
   exact this
 · obtain ⟨u, u1, u2⟩ := hrel.2 j y hy
   exact ⟨u, by simpa using u1, hfree y (List.mem_of_getElem? hy) _ _ _ _ u2⟩
 · rintro K' A' M' r u w' k1 k2 k3 k4 k5 k6 k7 ⟨hPr, K'', rfl, hQ⟩
   intro hd' w'' hr'' hw''
   have hMn : ∀ b, A b → M b = none → M' b = none := fun b h1 h2 => Classical.byContradiction fun hc => (k5 b hc).elim (hd' b ⟨h1, h2⟩).1 (hd' b ⟨h1, h2⟩).2
   have hi'' : Holds M' w'' := fun b o hb => by rw [hr''.keep b (k5 b (by rw [hb]; simp))]; exact k4 b o hb
   rw [Frame.finish_at, ho]
   refine h K'' r hPr hQ (un A' s.X) M' ρ (a.put o.dst u) w'' ?_ b k cs hb (hZ _ _ _ _ _ _ _ hz k1 (h₁.same.trans (k2.trans hr''.same)))
   refine SX.app (wr := []) (A' := un A' s.X) (Rd' := K''.Rd) (nb' := σ.nx + 8 * (i + 1)) hs₁ hd ⟨fun b hb => absurd rfl hb, k3.rm, fun b hb => hb.elim (fun h => Nat.lt_of_lt_of_le (k3.lt b h) hr''.same.size) fun h => Has.lt hw'' h⟩ k1 (Names.le_refl _) (k7 _ _ _ _ k6)
     (hr_back hs₁.sr.hr hs₁.fit k1 (fun b h1 h2 => ?_) (fun b h1 h2 => .inr ⟨h1, h2⟩) hMn hi'' (fun b hb => (k5 b hb).imp .inl id) (k2.trans hr''.same).size) (fun n hn => hs₁.fr n (by omega))
   obtain ⟨o', ho'⟩ := hlt b h1
   rw [ho']
   exact hw'' b o' (by rw [sO, if_pos ⟨h1, h2⟩]; exact ho')
end
end Go.Proofs.YtpdojmebloekgaaDoor.Nice.Co
namespace Go.Proofs.YtpdojmebloekgaaDoor.Nice.Co
open Go Go.Conc Go.Conc.Lib Go.ConcR.Gen
open Go.ConcR (KK WgAt stA smA mk DC0)
set_option linter.unusedVariables false
set_option linter.unusedSimpArgs false
set_option maxRecDepth 100000
set_option maxHeartbeats 4000000
noncomputable abbrev CR : Ctx := ⟨Tryd.prog, 63, 0, GC⟩
def elR (L : List (List Int)) (i : Nat) : D := .vec 1 (L.getD i []).length (u8F (L.getD i []))
def listR (L : List (List Int)) : SV := .d (.vec 1 L.length (fun i _ => elR L i))
def tellR (L : List (List Int)) : Nat → Imm → Value → Prop := fun k M v => ∀ ρ, VR M ρ (rolT (L.getD k []) k) v
abbrev pR (L : List (List Int)) (Wg Ch : Nat) : Pr := ⟨L.length, Wg, Ch, 59, tellR L⟩
def tlSR (L : List (List Int)) (Wg Ch : Nat) (j : Nat) : List (Nat × SV) :=
 [(0, listR L), (3, .vp 1 1 (fun _ _ => .val (.func (.func 18) #[] #[])) 0 0), (6, .vp 1 1 (fun _ _ => .val (.chan (some Ch))) 0 0), (7, .d (.val (.pointer (some ⟨Wg, 0, none⟩)))), (19, listR L), (20, SV.i L.length), (21, SV.i j)]
noncomputable def rest17 : Code := match Tryd.f17.body.getD .skip with | .seq _ (.seq _ (.seq _ (.seq _ (.seq _ c)))) => c | _ => .skip
theorem each17_a {Pst : Value → World → Prop} {s : Aside} {hX : ∀ b, s.O b ≠ none → s.X b} (L : List (List Int)) (hL : L.length ≤ 100) (hin : ∀ l, l ∈ L → Bytes l) (Rd : Blks) {Q : QX Tryd.prog}
   (hrest : ∀ Wg Ch Rd' π σ, Sub CR π σ (tlSR L Wg Ch L.length) [] → WX CR rest17 Q (frX s hX (trRun Tryd.prog (pR L Wg Ch) Pst true Rd' 0 (.spawn L.length false) hS rfl)) [] σ) : WX CR (Tryd.f17.body.getD .skip) Q (frX s hX (trPre Tryd.prog Pst Rd .p0)) [] (stOf (argT 0 [listR L, .fn 18 []]) []) := by
 obtain ⟨inf, hinf⟩ : ∃ inf, Tryd.prog.info? 91 = some inf := Option.isSome_iff_exists.1 (by kernel_rfl)
 refine x1 ?_
 refine sT 3 0 1 rfl <| sT 4 8 2 rfl <| sT 5 16 3 rfl <| e1 24 rfl ?_
 refine WX_seq ?_
 refine x1 ?_
 refine sT 15 24 1 rfl <| sT 16 32 2 rfl <| sT 17 40 3 rfl <| e1 48 rfl ?_
 refine WX_cond rfl (fun hc => ?_) fun hc => ?_
 · exfalso
   simp at hc; omega
 refine WX_skip ?_
 refine xtn ?_
 refine WX_cfreeze 3 0 (.val (.func (.func 18) #[] #[])) rfl rfl dr_of_fn ?_
 refine xX1 ?_
 refine FX_makeChan PZ.up rfl rfl rfl rfl Tryd.underlying89 hinf rfl fun Ch => ?_
 refine RX_ops PZ.up [_, _] 1 _ (fun j hj => by simp at hj; match j, hj with | 0, _ => rfl | 1, _ => rfl) ?_
 refine sT 6 56 2 rfl ?_
 refine s0 64 3 rfl rfl rfl rfl rfl trivial ?_
 refine e1 72 rfl ?_
 refine RX_end rfl rfl ?_
 refine xtn ?_
 refine WX_cfreeze 6 56 (.val (.chan (some Ch))) rfl rfl dr_of_d ?_
 refine xX1 ?_
 refine FX_allocWg PZ.up rfl rfl rfl run_alloc59 ev_alloc59 rfl L.length (tellR L) (hl := hS) (hm := rfl) fun Wg => ?_
 refine RX_end rfl rfl ?_
 refine xtn ?_
 refine WX_seq ?_
 refine x1 ?_
 refine sT 19 80 1 rfl <| sT 20 88 2 rfl <| sT 21 96 3 rfl <| e1 104 rfl ?_
 refine WX_block ?_
 refine WX_loop0 (fun m K ds σ => ds = [] ∧ ∃ j Rd' π, j ≤ L.length ∧ m = L.length - j ∧ K = frX s hX (trRun Tryd.prog (pR L Wg Ch) Pst true Rd' 0 (.spawn j false) hS rfl) ∧ Sub CR π σ (tlSR L Wg Ch j) []) L.length ⟨rfl, 0, _, [], Nat.zero_le _, rfl, rfl, ⟨rfl, ⟨rfl, rfl, rfl, rfl, rfl, rfl, rfl, trivial⟩, trivial⟩⟩ ?_
 rintro m K ds σ ⟨rfl, j, Rd', π, hj, rfl, rfl, hsub⟩
 refine WX_sub π _ _ hsub ?_
 refine x1 ?_
 refine sT 22 0 1 rfl <| e1 8 rfl ?_
 refine WX_seq ?_
 refine WX_cond rfl (fun hc => ?_) fun hc => ?_
 · have hjn : j < L.length := by simpa using hc
   refine WX_skip ?_
   refine xtn ?_
   refine WX_seq ?_
   refine WX_block ?_
   refine x1 ?_
   refine sT 23 8 1 rfl <| sO 24 16 2 rfl <| sO 25 24 3 rfl <| sT 8 32 4 rfl <| sT 9 40 5 rfl ?_
   refine s0 48 6 rfl rfl rfl rfl rfl trivial ?_
   refine s0 56 7 rfl rfl rfl rfl rfl trivial ?_
   refine e1 64 rfl ?_
   refine WX_cfreeze 8 32 (.val (.int .i64 j)) rfl rfl dr_of_d ?_
   refine WX_cfreeze 9 40 (elR L j) rfl rfl dr_of_d ?_
   refine xX1 ?_
   refine FX_add PZ.up YtpdojmebloekgaaDoor.wgLib rfl rfl rfl rfl rfl rfl hjn (Nat.lt_of_le_of_lt hL (by omega)) (hl' := hS) (hm' := rfl) ?_
   refine RX_end rfl rfl ?_
   refine xtn ?_
   refine xX0 ?_
   refine RX_ops PZ.up [_] 0 _ (fun j hj => by simp at hj; subst hj; rfl) ?_
   refine sT 27 72 1 rfl <| e1 88 rfl ?_
   refine FX_spawnW PZ.up rfl rfl rfl rfl rfl ?_ (hl' := hS) (hm' := rfl) (worker42 (p := pR L Wg Ch) (Nat.lt_of_le_of_lt hL (by omega)) (L.getD j []) ?_ j (fun M v h => h)) fun Rd2 => ?_
   · exact fun y hy => List.all_eq_true.1 (show (wkCaps (pR L Wg Ch) 18 _ j).all SV.dataB = true from rfl) y hy
   · refine hin _ ?_
     rw [List.getD_eq_getElem?_getD, List.getElem?_eq_getElem hjn]
     exact List.getElem_mem hjn
   refine RX_end rfl rfl ?_
   refine xbn ?_
   refine xtn ?_
   refine x0 ?_
   refine sAO 28 88 1 rfl <| sT 21 96 2 rfl <| e1 104 rfl ?_
   exact ⟨L.length - (j + 1), by omega, rfl, j + 1, Rd2, [], by omega, rfl, rfl, ⟨rfl, ⟨rfl, rfl, rfl, rfl, rfl, rfl, rfl, trivial⟩, trivial⟩⟩
 · have hjn : j = L.length := by have : ¬ ((j : Int) < L.length) := by simpa using hc
                                 omega
   subst hjn
   refine WX_exit ?_
   refine xtx ?_
   refine xtx ?_
   refine xbo ?_
   refine xtn ?_
   exact hrest Wg Ch Rd' [] _ ⟨rfl, ⟨rfl, rfl, rfl, rfl, rfl, rfl, rfl, trivial⟩, trivial⟩
end Go.Proofs.YtpdojmebloekgaaDoor.Nice.Co
namespace Go.Proofs.YtpdojmebloekgaaDoor
open Go Nice Nice.Co
set_option linter.unusedVariables false
set_option maxRecDepth 100000
theorem vec_imp {M : Imm} {k len : Nat} {f g : Nat → Nat → D} {v : Value} (h : DR M (.vec k len f) v) (e : ∀ i c u, i < len → c < k → DR M (f i c) u → DR M (g i c) u) : DR M (.vec k len g) v := by
 cases h with
 | vec0 => exact .vec0 _ _ _ _
 | vec _ _ _ b o cap cur T fz q hb hc hg hr => exact .vec _ _ _ b o cap cur T fz q hb hc hg fun i c hi hcc => e i c _ hi hcc (hr i c hi hcc)
theorem weights_all {H : Type} {P : Program} {e : TypeId} : ∀ {ds : List (DataW H)} {j : Nat} {d : DataW H}, ds[j]? = some d → ∀ n, n ∈ d.weights P e → n ∈ DataW.weightsAll P e ds
 | x0 :: ds, 0, d, hd, n, hn => by
   simp at hd; subst hd
   simp only [DataW.weightsAll, List.mem_append]
   exact .inl hn
 | x0 :: ds, j + 1, d, hd, n, hn => by
   simp at hd
   simp only [DataW.weightsAll, List.mem_append]
   exact .inr (weights_all hd n hn)
 | [], j, d, hd, n, hn => by simp at hd
theorem inner_len {H : Type} {enc : TypeId × Value → H} {P : Program} {w : World} {base : Nat} {spare : Nat → Bool} {held : Bool} {t e1 e2 : TypeId} {v : Value} {d : DataW H} {ps : List MemPlace} (hu1 : P.underlying t = some (.slice e1)) (hu2 : P.underlying e1 = some (.slice e2)) (hc : P.cellsOf e1 = 1) (hb : P.bytesOf e2 = 1)
   (h : DataW.Trod enc P w base spare held t v d ps) (hw : ∀ n, n ∈ d.weights P t → n ≤ reachBytes) {a : Addr} {len cap : Nat} (hv : v = .slice (some a) len cap) {i : Nat} (hi : i < len) {a' : Option Addr} {len' cap' : Nat} (hcell : w.cell? (a.add i) = some (.slice a' len' cap')) : len' ≤ reachBytes := by
 obtain ⟨fuel, h⟩ := h
 subst hv
 cases fuel with
 | zero => simp [DataW.trod] at h
 | succ fuel =>
   unfold DataW.trod at h
   simp only [hu1, Value.cells] at h
   have hl : (#[Value.slice (some a) len cap] : Array Value).toList = [.slice (some a) len cap] := rfl
   try simp only [hl] at h
   split at h
   · simp only [Option.bind_eq_some_iff, Option.map_eq_some_iff] at h
     obtain ⟨elems, hel, rest, _, hd⟩ := h
     obtain ⟨m1, m2⟩ := mapM_some hel
     obtain ⟨y, hy1, hy⟩ := m2 i i (by simp [hi])
     obtain ⟨cs', hcs', hy⟩ := Option.bind_eq_some_iff.1 hy
     obtain ⟨c1, c2⟩ := cells_some hcs'
     rw [hc] at c1 c2
     obtain ⟨u, u1, u2⟩ := c2 0 (by omega)
     rw [Nat.mul_one, show (a.add i).add 0 = a.add i by simp [Addr.add], hcell] at u2
     obtain rfl := Option.some.inj u2
     have hcs : cs' = [.slice a' len' cap'] := by
       match cs', c1, u1 with
       | [x], _, u1 => simp at u1; rw [u1]
     subst hcs
     have hmem : (elems.map (·.1))[i]? = some y.1 := by rw [List.getElem?_map, hy1]; rfl
     have hwy : ∀ n, n ∈ y.1.weights P e1 → n ≤ reachBytes := fun n hn => hw n (by
       have := congrArg Prod.fst hd
       simp only at this
       rw [← this]
       simp only [DataW.weights, hu1, List.mem_cons, List.mem_append]
       exact .inr (.inl (weights_all hmem n hn)))
     cases fuel with
     | zero => simp [DataW.trod] at hy
     | succ fuel =>
       unfold DataW.trod at hy
       simp only [hu2] at hy
       cases a' with
       | none =>
         match len', cap', hy with
         | 0, 0, _ => exact Nat.zero_le _
       | some a' =>
         simp only at hy
         split at hy
         · simp only [Option.bind_eq_some_iff, Option.map_eq_some_iff] at hy
           obtain ⟨el', hel', rest', _, hd'⟩ := hy
           obtain ⟨n1, _⟩ := mapM_some hel'
           have n1 : el'.length = len' := by simpa using n1
           have := hwy ((el'.length + rest'.length) * P.bytesOf e2) (by
             rw [← hd']
             simp [DataW.weights, hu2])
           rw [hb, Nat.mul_one] at this
           omega
         · cases hy
   · cases h
theorem bytess_of {M : Imm} (l : List (Sh.slice .u8).T) {v : Value} (h : DR M ((Sh.slice (Sh.slice .u8)).cell l 0) v) : DR M (.vec 1 (l.map ofB).length (fun i _ => elR (l.map ofB) i)) v := by
 rw [List.length_map]
 refine vec_imp h fun i c u hi hc hu => ?_
 rw [List.getElem?_eq_getElem hi] at hu
 have e : (l.map ofB).getD i [] = ofB l[i] := by simp [List.getD, hi]
 unfold elR
 rw [e]
 exact bytes_val l[i] hu
theorem bytess_in {w : World} (l : List (Sh.slice .u8).T) {v : Value} (h : DR (allM w) ((Sh.slice (Sh.slice .u8)).cell l 0) v) (hs : ∀ (a : Addr) (len cap : Nat), v = .slice (some a) len cap → ∀ (i : Nat), i < len → ∀ a' len' cap', w.cell? (a.add i) = some (.slice a' len' cap') → len' ≤ reachBytes) : ∀ m, m ∈ l.map ofB → Bytes m := fun m hm => by
 obtain ⟨x, hx, rfl⟩ := List.mem_map.1 hm
 obtain ⟨i, hi⟩ := List.mem_iff_getElem?.1 hx
 have hlt := (List.getElem?_eq_some_iff.1 hi).1
 have h' : DR (allM w) (.vec 1 l.length _) v := h
 generalize hL : l.length = n at h'
 rw [hL] at hlt
 cases h' with
 | vec0 => omega
 | vec _ _ _ b o cap cur T fz q hb hc hg hr =>
   have h1 := hg i 0 hlt (by omega)
   have h2 := hr i 0 hlt (by omega)
   simp only [hi] at h2
   have hb' : w.heap[b]? = some (.cells cur T fz) := hb
   refine bytes_sz x h2 fun a' len' cap' hq => ?_
   rw [Nat.mul_one]
   refine hs ⟨b, o, none⟩ n cap rfl i hlt a' len' cap' ?_
   have ea : (⟨b, o, none⟩ : Addr).add i = ⟨b, o + i, none⟩ := by unfold Addr.add; split <;> simp_all
   rw [ea]
   unfold World.cell?
   simp only [hb']
   rw [← hq]
   simpa using h1
end Go.Proofs.YtpdojmebloekgaaDoor
namespace Go.Proofs.YtpdojmebloekgaaDoor.Nice.Co
open Go
set_option linter.unusedVariables false
set_option linter.unusedSimpArgs false
set_option maxRecDepth 100000
def rollAt (r : Roll) : Nat → D
 | 0 => .val (.int .i64 r.c)
 | 1 => .val (.int .i64 r.lo)
 | 2 => .val (.int .i64 r.hi)
 | _ => .val (.int .i64 r.s)
def whatR (L : List (List Int)) (i c : Nat) : D := rollAt (rR (L.getD i [])) c
def faultsR (L : List (List Int)) : Nat → Int
 | 0 => 0
 | n + 1 => if faultsR L n = 0 then decE (L.getD n []) else faultsR L n
def firstR (L : List (List Int)) : Int := faultsR L L.length
theorem faultsR_stay {L : List (List Int)} {k n : Nat} (hk : k ≤ n) (h : faultsR L k ≠ 0) : faultsR L n = faultsR L k := by
 induction n with
 | zero => obtain rfl : k = 0 := by omega
           rfl
 | succ n ih =>
   by_cases e : k = n + 1
   · subst e; rfl
   · have := ih (by omega)
     show (if faultsR L n = 0 then _ else _) = _
     rw [if_neg (by rw [this]; exact h), this]
theorem faultsR_at {L : List (List Int)} {k n : Nat} (hk : k < n) (h0 : faultsR L k = 0) (h : decE (L.getD k []) ≠ 0) : faultsR L n = decE (L.getD k []) := by
 have e : faultsR L (k + 1) = decE (L.getD k []) := by show (if _ then _ else _) = _; rw [if_pos h0]
 rw [faultsR_stay (k := k + 1) hk (by rw [e]; exact h), e]
theorem faultsR_step {L : List (List Int)} {k : Nat} (h0 : faultsR L k = 0) (h : decE (L.getD k []) = 0) : faultsR L (k + 1) = 0 := by show (if _ then _ else _) = _; rw [if_pos h0, h]
def rollsV (L : List (List Int)) : SV := .d (.vec 4 L.length (fun i c => whatR L i c))
def rolAns (L : List (List Int)) : SV := if 100 < L.length then .tup [.d .nils, SV.i 1] else if firstR L = 0 then .tup [rollsV L, SV.i 0] else .tup [.d .nils, SV.i (firstR L)]
theorem ansR_ok {L : List (List Int)} (hL : L.length ≤ 100) (h : firstR L = 0) : rolAns L = .tup [rollsV L, SV.i 0] := by unfold rolAns; rw [if_neg (by omega), if_pos h]
theorem ansR_bad {L : List (List Int)} (hL : L.length ≤ 100) (h : firstR L ≠ 0) : rolAns L = .tup [.d .nils, SV.i (firstR L)] := by unfold rolAns; rw [if_neg (by omega), if_neg h]
theorem ansR_size {L : List (List Int)} (hL : 100 < L.length) : rolAns L = .tup [.d .nils, SV.i 1] := by unfold rolAns; rw [if_pos hL]
theorem ansR_free (L : List (List Int)) (π : List Nat) : ren π (rolAns L) = rolAns L ∧ Free (rolAns L) := by
 have key : ∀ x y : D, ren π (.tup [.d x, .d y]) = .tup [.d x, .d y] ∧ Free (.tup [.d x, .d y]) := fun x y => ⟨rfl, free_two (free_data rfl) (free_data rfl)⟩
 unfold rolAns
 split
 · exact key _ _
 · split
   · exact key _ _
   · exact key _ _
noncomputable def last17 : Code := match rest17 with | .seq _ (.seq _ (.seq _ (.seq _ c))) => c | _ => .skip
theorem tail17 (L : List (List Int)) (hL : L.length ≤ 100) : W ⟨Tryd.prog, 63, 0, GC⟩ last17 (outQ ⟨Tryd.prog, 63, 0, GC⟩ Tryd.f17 (fun r _ => r = rolAns L)) (stOf [(10, .sl 0 0 L.length), (11, .sl 1 0 L.length)] [some (.rows 33 4 L.length (fun i c => whatR L i c)), some (.rows 24 1 L.length (fun i _ => .val (.int .i64 (decE (L.getD i [])))))]) := by
 show W _ _ _ ⟨tOf _, hOf _, 2⟩
 refine W_seq <| r1 <| sT 52 2 1 rfl <| sO 53 10 2 rfl <| sT 54 18 3 rfl <| e1 26 rfl <| keep [10, 52, 53, 54] rfl <| W_block ?_
 refine loop (α := Nat) 2 (fun n => [(10, .sl 0 0 L.length), (52, .sl 1 0 L.length), (53, SV.i L.length), (54, SV.i n)]) (fun n => [some (.rows 33 4 L.length (fun i c => whatR L i c)), some (.rows 24 1 L.length (fun i _ => .val (.int .i64 (decE (L.getD i [])))))]) (fun n => n ≤ L.length ∧ faultsR L n = 0) (fun n => L.length - n) (0) [0, 1] (fun _ => rfl) ⟨Nat.zero_le _, rfl⟩ rfl ⟨rfl, rfl, rfl, rfl, trivial⟩ ⟨rfl, rfl, trivial⟩ (fun n hx => ?_)
 obtain ⟨hn, hno⟩ := hx
 refine r1 <| sO 55 2 1 rfl <| e1 10 rfl <| keep [10, 52, 53, 54, 55] rfl <| W_seq ?_
 refine q1 rfl (fun hc19 => ?_) (fun hc19 => ?_)
 try simp only [cs, ne_eq] at hc19
 refine W_skip <| tn <| W_seq <| W_block <| r1 <| sO 56 10 1 rfl <| sO 57 18 2 rfl <| sT 14 26 3 rfl <| e1 34 rfl <| keep [10, 14, 52, 53, 54] rfl <| r1 <| sT 58 34 1 rfl <| sO 59 42 2 rfl <| e1 50 rfl <| keep [10, 14, 52, 53, 54, 59] rfl ?_
 refine q1 rfl (fun hc21 => ?_) (fun hc21 => ?_)
 try simp only [cs, ne_eq] at hc21
 refine r1 <| sT 60 50 1 rfl <| sT 4 58 2 rfl <| sT 5 66 3 rfl <| e1 74 rfl <| keep [4, 5] rfl <| W_ret <| br <| tr <| tr <| br <| tr ?_
 exact out2 4 5 (.d .nils) (SV.i (decE (L.getD n []))) (π := []) (hout := []) Tryd.results17 rfl rfl rfl (by simp only [Int.toNat_natCast, Nat.zero_add]; rfl) rfl rfl trivial (by have h := faultsR_at (L := L) (k := n) (n := L.length) (by omega) hno (by simpa using hc21); rw [ansR_bad hL (by unfold firstR; rw [h]; simpa using hc21)]; unfold firstR; rw [h])
 try simp only [cs, ne_eq] at hc21
 refine W_skip <| bn <| tn ?_
 refine r0 ?_
 refine sAO 61 50 1 rfl <| sT 54 58 2 rfl <| e1 66 rfl <| tn ?_
 exact again (n + 1) [0, 1] ⟨by omega, faultsR_step hno (by simpa using hc21)⟩ (by omega) rfl ⟨rfl, rfl, rfl, rfl, trivial⟩ ⟨rfl, rfl, trivial⟩
 try simp only [cs, ne_eq] at hc19
 refine W_exit <| tx <| tx <| bx <| tn ?_
 obtain rfl : n = L.length := (by omega)
 refine freeze 10 0 L.length rfl rfl (Nat.le_refl _) ?_
 refine r1 <| sT 62 10 1 rfl <| sT 4 18 2 rfl <| sT 5 26 3 rfl <| e1 34 rfl <| keep [4, 5] rfl <| W_ret ?_
 exact out2 4 5 (rollsV L) (SV.i 0) (π := []) (hout := []) Tryd.results17 rfl rfl rfl rfl rfl rfl trivial (ansR_ok hL hno).symm
end Go.Proofs.YtpdojmebloekgaaDoor.Nice.Co
namespace Go.Proofs.YtpdojmebloekgaaDoor.Nice.Co
open Go Go.Conc Go.Conc.Lib Go.ConcR.Gen
open Go.ConcR (KK WgAt stA smA mk DC0)
set_option linter.unusedVariables false
set_option linter.unusedSimpArgs false
set_option maxRecDepth 100000
set_option maxHeartbeats 4000000
def postR (s : Aside) (hX : ∀ b, s.O b ≠ none → s.X b) (L : List (List Int)) (Pst : Value → World → Prop) : Tr Tryd.prog → SV → Prop := fun K r => r = rolAns L ∧ ∃ K'', K = frX s hX K'' ∧ Ends Pst K''
def gO (L : List (List Int)) (J : List Nat) : Nat → Nat → D := fun i c => if i ∈ J then whatR L i c else .val (.int .i64 0)
def gC (L : List (List Int)) (J : List Nat) : Nat → Nat → D := fun i _ => if i ∈ J then .val (.int .i64 (decE (L.getD i []))) else .val (.int .i64 0)
theorem upd_gO {L : List (List Int)} {J : List Nat} {fo : Nat → Nat → D} {k i c : Nat} (h : ∀ i c, i < L.length → c < 4 → fo i c = gO L J i c) (hi : i < L.length) (hc : c < 4) : updR fo (0 + (k : Int).toNat) 0 [.val (.int .i64 (rR (L.getD k [])).c), .val (.int .i64 (rR (L.getD k [])).lo), .val (.int .i64 (rR (L.getD k [])).hi), .val (.int .i64 (rR (L.getD k [])).s)] i c = gO L (k :: J) i c := by
 unfold updR
 rw [Int.toNat_natCast, Nat.zero_add]
 by_cases e : i = k
 · subst e
   rw [if_pos ⟨rfl, Nat.zero_le _, by simpa using hc⟩]
   simp only [gO, List.mem_cons, true_or, if_true]
   match c, hc with
   | 0, _ => rfl
   | 1, _ => rfl
   | 2, _ => rfl
   | 3, _ => rfl
 · rw [if_neg (fun h => e h.1), h i c hi hc]
   simp [gO, e]
theorem upd_gC {L : List (List Int)} {J : List Nat} {fc : Nat → Nat → D} {k i : Nat} {x : Int} (h : ∀ i, i < L.length → fc i 0 = gC L J i 0) (hi : i < L.length) (hX : decE (L.getD k []) = x) : updR fc (0 + (k : Int).toNat) 0 [.val (.int .i64 x)] i 0 = gC L (k :: J) i 0 := by
 unfold updR
 rw [Int.toNat_natCast, Nat.zero_add]
 subst hX
 by_cases e : i = k
 · subst e; simp [gC]
 · simp [e, h i hi, gC]
def tlRR (n Ch : Nat) : List (Nat × SV) := [(10, .sl 0 0 n), (11, .sl 1 0 n), (36, .d (.val (.chan (some Ch))))]
def hlRR (n : Nat) (fo fc : Nat → Nat → D) : List (Option Blk) := [some (.rows 33 4 n fo), some (.rows 24 1 n fc)]
theorem hRR {J : List Nat} : Lo.recv J ≠ .out := by simp
theorem each17_b {Pst : Value → World → Prop} {s : Aside} {hX : ∀ b, s.O b ≠ none → s.X b} (L : List (List Int)) (hL : L.length ≤ 100) (hin : ∀ l, l ∈ L → Bytes l) (Wg Ch : Nat) (Rd : Blks) {π : List Nat} {σ : St} (hsub : Sub CR π σ (tlSR L Wg Ch L.length) []) :
   WX CR rest17 (outQX CR Tryd.f17 (postR s hX L Pst)) (frX s hX (trRun Tryd.prog (pR L Wg Ch) Pst true Rd 0 (.spawn L.length false) hS rfl)) [] σ := by
 refine WX_sub π _ _ hsub ?_
 refine xX1 ?_
 refine RX_ops PZ.up [_] 0 _ (fun j hj => by simp at hj; subst hj; rfl) ?_
 refine sT 29 0 1 rfl <| e1 16 rfl ?_
 refine FX_spawnC (p := pR L Wg Ch) PZ.up rfl rfl rfl rfl rfl ?_ (hl' := hRR) (hm' := rfl) (closer43 (Nat.lt_of_le_of_lt hL (by omega))) fun Rd2 => ?_
 · exact fun y hy => List.all_eq_true.1 (show (clCaps (pR L Wg Ch)).all SV.dataB = true from rfl) y hy
 refine RX_end rfl rfl ?_
 refine xtn ?_
 refine x1 ?_
 refine sT 30 16 1 rfl <| sT 31 24 2 rfl ?_
 refine sV 32 32 3 rfl ⟨by omega, rfl, (by show (L.length : Int) * ((32 : Nat) : Int) ≤ ((140737488355328 : Nat) : Int); omega), by omega⟩ ?_
 refine sT 10 40 4 rfl <| e1 48 rfl ?_
 refine x1 ?_
 refine sT 33 48 1 rfl <| sT 34 56 2 rfl ?_
 refine sV 35 64 3 rfl ⟨by omega, rfl, (by show (L.length : Int) * ((8 : Nat) : Int) ≤ ((140737488355328 : Nat) : Int); omega), by omega⟩ ?_
 refine sT 11 72 4 rfl <| e1 80 rfl ?_
 refine WX_seq ?_
 refine x1 ?_
 refine sV 36 80 1 rfl (by decide) ?_
 refine e1 88 rfl ?_
 refine WX_block ?_
 refine WX_loop0 (fun m K ds σ => ds = [] ∧ ∃ J Rd' π fo fc, m = miss J L.length ∧ K = frX s hX (trRun Tryd.prog (pR L Wg Ch) Pst true Rd' 0 (.recv J) hRR rfl) ∧ (∀ i c, i < L.length → c < 4 → fo i c = gO L J i c) ∧ (∀ i, i < L.length → fc i 0 = gC L J i 0) ∧ Sub CR π σ (tlRR L.length Ch) (hlRR L.length fo fc)) (miss [] L.length) ⟨rfl, [], Rd2, [32, 64], _, _, rfl, rfl, ?_, ?_, ⟨rfl, ⟨rfl, rfl, rfl, trivial⟩, ⟨rfl, rfl, trivial⟩⟩⟩ ?_
 · intro i c hi hc
   simp only [gO, List.not_mem_nil, if_false]
   match c, hc with
   | 0, _ => rfl
   | 1, _ => rfl
   | 2, _ => rfl
   | 3, _ => rfl
 · intro i hi; simp [gC]; rfl
 rintro m K ds σ ⟨rfl, J, Rd', π', fo, fc, rfl, rfl, hfo, hfc, hsub'⟩
 refine WX_sub π' _ _ hsub' ?_
 refine xX1 ?_
 refine FX_recv (p := pR L Wg Ch) PZ.up rfl rfl rfl rfl Tryd.runUnderlying89 (fun w => by simp) Tryd.zeroValue91 (fun w => by simp) rfl (fun k => rolT (L.getD k []) k) (fun k M v h => h) (hl1 := fun k => hRR) (hm1 := fun k => rfl) (hl2 := by simp) (hm2 := rfl) (fun k Rd3 hk hkJ => ?_) (fun hall => ?_)
 · have hk : k < L.length := hk
   refine RX_ops PZ.up [_] 1 _ (fun j hj => by simp at hj; subst hj; rfl) ?_
   refine sT 38 10 2 rfl <| e1 18 rfl ?_
   refine RX_end rfl rfl ?_
   refine xtn ?_
   refine WX_seq ?_
   refine WX_cond rfl (fun _ => ?_) (fun hc => by cases hc)
   refine WX_skip ?_
   refine xtn ?_
   refine WX_block ?_
   refine x1 ?_
   refine sT 39 18 1 rfl <| sT 12 26 2 rfl ?_
   refine s0 34 3 rfl rfl rfl rfl rfl trivial ?_
   refine e1 42 rfl ?_
   refine WX_keep [10, 11, 12, 36] rfl ?_
   refine xd0 (by kernel_rfl) ?_
   refine dT 40 42 1 rfl <| dT 41 50 2 rfl <| dT 42 58 3 rfl <| dT 43 66 4 rfl <| dT 44 74 5 rfl <| dT 45 82 6 rfl <| dT 46 90 7 rfl <| dT 47 98 8 rfl <| dT 48 106 9 rfl <| dT 49 114 10 rfl <| dO 50 122 11 rfl ?_
   refine d0 130 12 rfl rfl rfl rfl rfl (by first | trivial | omega) ?_
   refine dO 51 138 13 rfl ?_
   refine d0 146 14 rfl rfl rfl rfl rfl (by first | trivial | omega) ?_
   refine de1 154 rfl (by kernel_rfl) ?_
   refine xbn ?_
   exact ⟨miss (k :: J) L.length, miss_lt hkJ hk, rfl, k :: J, Rd3, [0, 1], _, _, rfl, rfl, (fun i c hi hc => upd_gO hfo hi hc), (fun i hi => upd_gC hfc hi rfl), ⟨rfl, ⟨rfl, rfl, rfl, trivial⟩, ⟨rfl, rfl, trivial⟩⟩⟩
 · refine RX_ops PZ.up [_] 1 _ (fun j hj => by simp at hj; subst hj; rfl) ?_
   refine sT 38 10 2 rfl <| e1 18 rfl ?_
   refine RX_end rfl rfl ?_
   refine xtn ?_
   refine WX_seq ?_
   refine WX_cond rfl (fun hc => by cases hc) (fun _ => ?_)
   refine WX_exit ?_
   refine xtx ?_
   refine xtx ?_
   refine xbo ?_
   refine xtn ?_
   refine WX_rowsc 0 L.length (fun i c => whatR L i c) rfl rfl (fun i c hi hc => ?_) ?_
   · rw [hfo i c hi hc]; unfold gO; rw [if_pos (hall i hi)]
   refine WX_rowsc 1 L.length (fun i _ => .val (.int .i64 (decE (L.getD i [])))) rfl rfl (fun i c hi hc => ?_) ?_
   · obtain rfl : c = 0 := by omega
     rw [hfc i hi]; unfold gC; rw [if_pos (hall i hi)]
   refine WX_sub [0, 1] [(10, .sl 0 0 L.length), (11, .sl 1 0 L.length)] [some (.rows 33 4 L.length (fun i c => whatR L i c)), some (.rows 24 1 L.length (fun i _ => .val (.int .i64 (decE (L.getD i [])))))] ⟨rfl, ⟨rfl, rfl, trivial⟩, ⟨rfl, rfl, trivial⟩⟩ (WX_last (tail17 L hL) ?_)
   rintro π r ho rfl
   rw [(ansR_free L π).1]
   exact ⟨(ansR_free L []).2, rfl, _, rfl, ends_fin⟩
end Go.Proofs.YtpdojmebloekgaaDoor.Nice.Co
