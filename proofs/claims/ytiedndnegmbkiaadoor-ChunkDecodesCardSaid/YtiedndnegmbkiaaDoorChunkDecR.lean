/- The document decodes samples: its parts. -/
import Derived.Test.YtiedndnegmbkiaaDoorChunkDec
import Derived.Test.YtiedndnegmbkiaaDoorChunkRef
namespace Go.Proofs.YtiedndnegmbkiaaDoor.Nice
open Go
set_option linter.unusedVariables false
set_option linter.unusedSimpArgs false
set_option maxRecDepth 100000
set_option maxHeartbeats 4000000

theorem shr128b {k : Int} {r : Nat} (h : k = r) (hr : r < 8) : (128 : Int).fdiv (2 ^ (min k.toNat 64)) = 2 ^ (7 - r) := by
  subst h
  have e : r = 0 ∨ r = 1 ∨ r = 2 ∨ r = 3 ∨ r = 4 ∨ r = 5 ∨ r = 6 ∨ r = 7 := by omega
  rcases e with rfl | rfl | rfl | rfl | rfl | rfl | rfl | rfl <;> decide
def wL : List Int := [0, 6, 12, 24, 59]
def lowL : List Int := [0, 1, 64, 4096, 16777216]
theorem wL_get {q : Nat} (h : q ≤ 4) : wL.getD q 0 = clB q := by
  match q, h with
  | 0, _ | 1, _ | 2, _ | 3, _ | 4, _ => rfl
theorem cls_low {q : Nat} (h : q ≤ 4) {x : Int} (h0 : 0 ≤ x) (h1 : x < 2 ^ clB q) : cls x = q ↔ ¬ (0 < clB q ∧ x < lowL.getD q 0) := by
  have e0 : (2 : Int) ^ 0 = 1 := by decide
  have e1 : (2 : Int) ^ 6 = 64 := by decide
  have e2 : (2 : Int) ^ 12 = 4096 := by decide
  have e3 : (2 : Int) ^ 24 = 16777216 := by decide
  have hc : clB 0 = 0 ∧ clB 1 = 6 ∧ clB 2 = 12 ∧ clB 3 = 24 ∧ clB 4 = 59 := ⟨rfl, rfl, rfl, rfl, rfl⟩
  obtain ⟨c0, c1, c2, c3, c4⟩ := hc
  have hl : lowL.getD 0 0 = 0 ∧ lowL.getD 1 0 = 1 ∧ lowL.getD 2 0 = 64 ∧ lowL.getD 3 0 = 4096 ∧ lowL.getD 4 0 = 16777216 := ⟨rfl, rfl, rfl, rfl, rfl⟩
  obtain ⟨l0, l1, l2, l3, l4⟩ := hl
  unfold cls
  rcases (show q = 0 ∨ q = 1 ∨ q = 2 ∨ q = 3 ∨ q = 4 by omega) with rfl | rfl | rfl | rfl | rfl
  · rw [c0, e0] at h1; rw [c0, l0, if_pos (by omega)]; omega
  · rw [c1, e1] at h1; rw [c1, l1]; repeat' split
    all_goals omega
  · rw [c2, e2] at h1; rw [c2, l2]; repeat' split
    all_goals omega
  · rw [c3, e3] at h1; rw [c3, l3]; repeat' split
    all_goals omega
  · rw [c4, l4]; repeat' split
    all_goals omega
theorem tdiv_unf {x : Int} (h0 : 0 ≤ x) (h1 : x < 576460752303423488) (h : x % 2 = 1) : IntKind.i64.wrap ((-(x + 1)).tdiv 2) = zUnf x := by
  unfold zUnf
  rw [if_pos h, Int.neg_tdiv, Int.tdiv_eq_ediv_of_nonneg (by omega)]
  exact wrap_in ⟨by omega, by omega⟩
def zgA (l : List Int) (n : Nat) : Nat := if (zgt l n).e = 0 then (zgt l n).at' else 0
theorem byte8 {l : List Int} (hl : Bytes l) : numB l 0 8 = l.getD 0 0 := by
  have := hl.b 0
  show 2 * (2 * (2 * (2 * (2 * (2 * (2 * (2 * 0 + l.getD 0 0 / 2 ^ 7 % 2) + l.getD 0 0 / 2 ^ 6 % 2) + l.getD 0 0 / 2 ^ 5 % 2) + l.getD 0 0 / 2 ^ 4 % 2) + l.getD 0 0 / 2 ^ 3 % 2) + l.getD 0 0 / 2 ^ 2 % 2) + l.getD 0 0 / 2 ^ 1 % 2) + l.getD 0 0 / 2 ^ 0 % 2 = l.getD 0 0
  rw [show (2 : Int) ^ 7 = 128 by decide, show (2 : Int) ^ 6 = 64 by decide, show (2 : Int) ^ 5 = 32 by decide, show (2 : Int) ^ 4 = 16 by decide, show (2 : Int) ^ 3 = 8 by decide, show (2 : Int) ^ 2 = 4 by decide, show (2 : Int) ^ 1 = 2 by decide, show (2 : Int) ^ 0 = 1 by decide]
  omega
def bstr (l : List Int) : List UInt8 := l.map fun v => UInt8.ofNat v.toNat
theorem bstr_len (l : List Int) : l.length = (bstr l).length := by simp [bstr]
theorem bstr_get {l : List Int} (hl : Bytes l) (j : Nat) (hj : j < (bstr l).length) : u8F l j 0 = .val (.int .u8 ((bstr l)[j].toNat : Int)) := by
  have hj' : j < l.length := by rw [bstr_len]; exact hj
  have := hl.b j
  have e : l.getD j 0 = l[j] := by simp [List.getD, hj']
  unfold u8F
  rw [e] at this ⊢
  have : ((bstr l)[j].toNat : Int) = l[j] := by
    simp only [bstr, List.getElem_map, UInt8.toNat_ofNat']
    omega
  rw [this]
theorem bstr_inj {x y : List Int} (hx : Bytes x) (hy : Bytes y) (h : bstr x = bstr y) : x = y := by
  have hl : x.length = y.length := by rw [bstr_len x, bstr_len y, h]
  refine List.ext_getElem hl fun i h1 h2 => ?_
  have e1 := bstr_get hx i (by rw [← bstr_len]; exact h1)
  have e2 := bstr_get hy i (by rw [← bstr_len]; exact h2)
  have a1 : x.getD i 0 = x[i] := by simp [List.getD, h1]
  have a2 : y.getD i 0 = y[i] := by simp [List.getD, h2]
  unfold u8F at e1 e2
  simp only [D.val.injEq, Value.int.injEq, true_and] at e1 e2
  rw [a1] at e1; rw [a2] at e2
  rw [e1, e2]; simp only [h]
theorem sampleOf_0 (M : List Smp) (x y : Int) : sampleOf (lstN M 0) x y = ⟨x, y⟩ := rfl
theorem sampleOf_1 (M : List Smp) (x y : Int) : sampleOf (lstN M 1) x y = ⟨x + (M.getD 0 default).t, y + (M.getD 0 default).v⟩ := by
  unfold sampleOf
  rw [if_neg (by rw [lstN_n]; decide), (lstN_t M (by decide)).1, (lstN_t M (by decide)).2, lstN_st, if_neg (by decide)]
  simp only [Nat.sub_self]
  congr 1 <;> omega
theorem sampleOf_2 (M : List Smp) (x y : Int) {k : Nat} (h : 2 ≤ k) : sampleOf (lstN M k) x y = ⟨x + (M.getD (k - 1) default).t + ((M.getD (k - 1) default).t - (M.getD (k - 2) default).t), y + (M.getD (k - 1) default).v⟩ := by
  unfold sampleOf
  rw [if_neg (by rw [lstN_n]; omega), (lstN_t M (by omega)).1, (lstN_t M (by omega)).2, lstN_st, if_pos h]
  congr 1 <;> omega
theorem sfault_snoc {M : List Smp} {s : Smp} (h : faultTo M M.length = 0) (hl : M.length < 120) : sfault (M ++ [s]) = lfault (lstN M M.length) s := by
  unfold sfault
  rw [if_neg (by simp; omega), show (M ++ [s]).length = M.length + 1 by simp, faultTo_snoc M s h]
theorem smpIn_good {M : List Smp} (h : faultTo M M.length = 0) (hl : M.length ≤ 120) : SmpIn M := by
  have key : ∀ k, inRange (M.getD k default).t ∧ inRange (M.getD k default).v := by
    intro k
    by_cases hk : k < M.length
    · obtain ⟨⟨h1, h2⟩, ⟨h3, h4⟩, _⟩ := smp_at h hk
      exact ⟨⟨by omega, by omega⟩, ⟨by omega, by omega⟩⟩
    · have e : M.getD k default = default := by rw [List.getD_eq_getElem?_getD, List.getElem?_eq_none (by omega)]; rfl
      rw [e]; exact ⟨⟨by decide, by decide⟩, ⟨by decide, by decide⟩⟩
  exact ⟨by omega, fun k => (key k).1, fun k => (key k).2⟩
theorem sfault_good {M : List Smp} (h : faultTo M M.length = 0) (hl : M.length ≤ 120) : sfault M = 0 := by
  unfold sfault; rw [if_neg (by omega), h]

theorem bitAt_any (l : List Int) (hl : Bytes l) (i : Nat) (hi : i < 8 * l.length) : Spec Tryd.prog GC 62 [u8V l, SV.i i] [] (fun r ho => r = SV.i (bitB l i) ∧ ho = []) := by
  obtain ⟨hl1, hl2⟩ := hl
  have hb := hl2 (i / 8)
  have hd := byte_div hb.1 hb.2 (7 - i % 8)
  have hp : (0 : Int) < (2 ^ (7 - i % 8)) := Int.pow_pos (by decide)
  refine start 16 0 Tryd.func62 rfl rfl rfl rfl ?_
  refine r1 ?_
  refine s1 4 0 1 rfl rfl rfl rfl rfl rfl trivial ?_
  refine e1 8 rfl ?_
  refine keep [0, 1] rfl ?_
  refine rd1 rfl ?_
  refine d1 5 8 1 rfl rfl rfl rfl rfl rfl trivial ?_
  refine d1 6 16 2 rfl rfl rfl rfl rfl rfl trivial ?_
  refine dD 7 24 3 rfl rfl rfl rfl rfl rfl rfl rfl rfl (by omega) ?_
  refine d1 8 32 4 rfl rfl rfl rfl rfl rfl (by constructor <;> omega) ?_
  refine d1 9 40 5 rfl rfl rfl rfl rfl rfl (by omega) ?_
  refine val 9 (.d (.val (.int .u8 (l.getD (i / 8) 0)))) rfl (by first | rfl | (rw [show ((i : Int) / 8).toNat = i / 8 by omega])) ?_
  refine d1 10 48 6 rfl rfl rfl rfl rfl rfl trivial ?_
  refine val 10 (SV.i (l.getD (i / 8) 0)) rfl (congrArg (fun x => SV.d (D.val (Value.int .i64 x))) (wrap_in ⟨by omega, by omega⟩)) ?_
  refine d1 11 56 7 rfl rfl rfl rfl rfl rfl trivial ?_
  refine dD 12 64 8 rfl rfl rfl rfl rfl rfl rfl rfl rfl (by omega) ?_
  refine d1 13 72 9 rfl rfl rfl rfl rfl rfl (by omega) ?_
  refine val 13 (SV.i (2 ^ (7 - i % 8))) rfl (congrArg (fun x => SV.d (D.val (Value.int .i64 x))) (shr128b (by omega) (by omega))) ?_
  refine dD 14 80 10 rfl rfl rfl rfl rfl rfl rfl rfl rfl ⟨by omega, by omega, hp⟩ ?_
  refine dD 15 88 11 rfl rfl rfl rfl rfl rfl rfl rfl rfl ⟨by omega, by omega, by omega⟩ ?_
  refine d1 4 96 12 rfl rfl rfl rfl rfl rfl trivial ?_
  refine de1 104 rfl (by kernel_rfl) ?_
  refine keep [4] rfl ?_
  refine W_ret ?_
  exact out1 4 (SV.i (bitB l i)) (π := []) (hout := []) Tryd.results62 rfl rfl rfl rfl trivial ⟨rfl, rfl⟩

theorem refUnf_any (x : Int) (h0 : 0 ≤ x) (h1 : x < 576460752303423488) : Spec Tryd.prog GC 63 [SV.i x] [] (fun r ho => r = SV.tup [SV.i (zUnf x), SV.i 0] ∧ ho = []) := by
  refine start 19 0 Tryd.func63 rfl rfl rfl rfl ?_
  refine r1 ?_
  refine s1 2 0 1 rfl rfl rfl rfl rfl rfl trivial ?_
  refine s1 3 8 2 rfl rfl rfl rfl rfl rfl trivial ?_
  refine e1 16 rfl ?_
  refine keep [0] rfl ?_
  refine W_seq ?_
  refine r1 ?_
  refine s1 4 16 1 rfl rfl rfl rfl rfl rfl trivial ?_
  refine s1 5 24 2 rfl rfl rfl rfl rfl rfl (by first | trivial | omega | (simp only [List.length_map, List.length_append, List.length_cons, List.length_nil] at *; omega)) ?_
  refine s1 6 32 3 rfl rfl rfl rfl rfl rfl trivial ?_
  refine ask 6 rfl (fun hg1_6 => ?_) (fun hg1_6 => ?_)
  · skip
    try simp only [decide_eq_true_eq, decide_eq_false_iff_not, Bool.not_eq_true', Bool.not_eq_false', beq_iff_eq, bne_iff_ne, beq_eq_false_iff_ne, Bool.and_eq_true, Bool.or_eq_true, Bool.and_eq_false_iff, Bool.or_eq_false_iff, ge_iff_le, gt_iff_lt, Int.not_lt, Int.not_le, ne_eq, Decidable.not_not, bne_eq_false_iff_eq] at hg1_6
    refine g0 2 false 6 7 4 rfl rfl rfl rfl rfl rfl ?_
    refine g0 2 false 6 8 5 rfl rfl rfl rfl rfl rfl ?_
    refine s1 9 56 6 rfl rfl rfl rfl rfl rfl trivial ?_
    refine e1 64 rfl ?_
    refine keep [0, 9] rfl ?_
    refine q1 rfl (fun hc1 => ?_) (fun hc1 => ?_)
    · skip
      exfalso; simp at hc1; omega
    · skip
      exact absurd hc1 (by decide)
  · skip
    try simp only [decide_eq_true_eq, decide_eq_false_iff_not, Bool.not_eq_true', Bool.not_eq_false', beq_iff_eq, bne_iff_ne, beq_eq_false_iff_ne, Bool.and_eq_true, Bool.or_eq_true, Bool.and_eq_false_iff, Bool.or_eq_false_iff, ge_iff_le, gt_iff_lt, Int.not_lt, Int.not_le, ne_eq, Decidable.not_not, bne_eq_false_iff_eq] at hg1_6
    refine g1 2 false 6 7 4 rfl rfl rfl rfl rfl ?_
    refine s1 7 40 4 rfl rfl rfl rfl rfl rfl trivial ?_
    refine g1 2 false 6 8 5 rfl rfl rfl rfl rfl ?_
    refine s1 8 48 5 rfl rfl rfl rfl rfl rfl (by first | trivial | omega | (simp only [List.length_map, List.length_append, List.length_cons, List.length_nil] at *; omega)) ?_
    refine s1 9 56 6 rfl rfl rfl rfl rfl rfl trivial ?_
    refine e1 64 rfl ?_
    refine keep [0, 9] rfl ?_
    refine q1 rfl (fun hc1 => ?_) (fun hc1 => ?_)
    · skip
      exfalso; simp at hc1; omega
    · skip
      try simp only [decide_eq_true_eq, decide_eq_false_iff_not, Bool.not_eq_true', Bool.not_eq_false', beq_iff_eq, bne_iff_ne, beq_eq_false_iff_ne, Bool.and_eq_true, Bool.or_eq_true, Bool.and_eq_false_iff, Bool.or_eq_false_iff, ge_iff_le, gt_iff_lt, Int.not_lt, Int.not_le, ne_eq, Decidable.not_not, bne_eq_false_iff_eq] at hc1
      refine W_skip ?_
      refine tn ?_
      refine W_seq ?_
      refine r1 ?_
      refine s1 10 64 1 rfl rfl rfl rfl rfl rfl trivial ?_
      refine sD 11 72 2 rfl rfl rfl rfl rfl rfl rfl rfl rfl (by omega) ?_
      refine s1 12 80 3 rfl rfl rfl rfl rfl rfl (by first | trivial | omega | (simp only [List.length_map, List.length_append, List.length_cons, List.length_nil] at *; omega)) ?_
      refine e1 88 rfl ?_
      refine keep [0, 12] rfl ?_
      refine q1 rfl (fun hc3 => ?_) (fun hc3 => ?_)
      · skip
        try simp only [decide_eq_true_eq, decide_eq_false_iff_not, Bool.not_eq_true', Bool.not_eq_false', beq_iff_eq, bne_iff_ne, beq_eq_false_iff_ne, Bool.and_eq_true, Bool.or_eq_true, Bool.and_eq_false_iff, Bool.or_eq_false_iff, ge_iff_le, gt_iff_lt, Int.not_lt, Int.not_le, ne_eq, Decidable.not_not, bne_eq_false_iff_eq] at hc3
        refine r1 ?_
        refine s1 13 88 1 rfl rfl rfl rfl rfl rfl trivial ?_
        refine sA 14 96 2 rfl rfl rfl rfl rfl rfl rfl rfl rfl (by unfold inRange; omega) ?_
        refine s1 15 104 3 rfl rfl rfl rfl rfl rfl trivial ?_
        refine val 15 (SV.i (-(x + 1))) rfl (congrArg (fun x => SV.d (D.val (Value.int .i64 x))) (show IntKind.i64.wrap (0 - (x + 1)) = _ from by rw [Int.zero_sub]; exact wrap_in ⟨by omega, by omega⟩)) ?_
        refine s1as (SV.i (zUnf x)) 16 112 4 rfl rfl rfl rfl rfl rfl (by decide) (congrArg (fun x => SV.d (D.val (Value.int .i64 x))) (tdiv_unf h0 h1 hc3)) ?_
        refine s1 2 120 5 rfl rfl rfl rfl rfl rfl trivial ?_
        refine s1 3 128 6 rfl rfl rfl rfl rfl rfl trivial ?_
        refine e1 136 rfl ?_
        refine keep [2, 3] rfl ?_
        refine W_ret ?_
        refine tr ?_
        exact out2 2 3 (SV.i (zUnf x)) (SV.i 0) (π := []) (hout := []) Tryd.results63 rfl rfl rfl rfl rfl rfl trivial ⟨rfl, rfl⟩
      · skip
        try simp only [decide_eq_true_eq, decide_eq_false_iff_not, Bool.not_eq_true', Bool.not_eq_false', beq_iff_eq, bne_iff_ne, beq_eq_false_iff_ne, Bool.and_eq_true, Bool.or_eq_true, Bool.and_eq_false_iff, Bool.or_eq_false_iff, ge_iff_le, gt_iff_lt, Int.not_lt, Int.not_le, ne_eq, Decidable.not_not, bne_eq_false_iff_eq] at hc3
        refine W_skip ?_
        refine tn ?_
        refine r1 ?_
        refine s1 17 88 1 rfl rfl rfl rfl rfl rfl trivial ?_
        refine sD 18 96 2 rfl rfl rfl rfl rfl rfl rfl rfl rfl (by omega) ?_
        refine s1 2 104 3 rfl rfl rfl rfl rfl rfl trivial ?_
        refine s1 3 112 4 rfl rfl rfl rfl rfl rfl trivial ?_
        refine e1 120 rfl ?_
        refine keep [2, 3] rfl ?_
        refine W_ret ?_
        exact out2 2 3 (SV.i (zUnf x)) (SV.i 0) (π := []) (hout := []) Tryd.results63 rfl rfl (by show SV.i (x / 2) = SV.i (zUnf x); unfold zUnf; rw [if_neg hc3]) rfl rfl rfl trivial ⟨rfl, rfl⟩

theorem zigAt_any (l : List Int) (hl : Bytes l) (n : Nat) (hn : n ≤ 8 * l.length) : Spec Tryd.prog GC 43 [u8V l, SV.i n] [] (fun r ho => r = SV.tup [SV.i (zgt l n).x, SV.i (zgA l n : Nat), SV.i (zgt l n).e] ∧ ho = []) := by
  have hlb := hl
  obtain ⟨hl1, hl2⟩ := hl
  refine start 73 0 Tryd.func43 rfl rfl rfl rfl ?_
  refine r1 ?_
  refine s1 4 0 1 rfl rfl rfl rfl rfl rfl trivial ?_
  refine s1 5 8 2 rfl rfl rfl rfl rfl rfl trivial ?_
  refine s1 6 16 3 rfl rfl rfl rfl rfl rfl trivial ?_
  refine e1 24 rfl ?_
  refine keep [0, 1] rfl ?_
  refine r1 ?_
  refine s1 7 24 1 rfl rfl rfl rfl rfl rfl trivial ?_
  refine e1 32 rfl ?_
  refine keep [0, 1, 7] rfl ?_
  refine W_seq ?_
  refine W_block ?_
  refine loop (α := Nat) 0 (fun k => [(0, u8V l), (1, SV.i (n + (k) : Nat)), (7, SV.i (k))]) (fun k => []) (fun k => (k) ≤ 4 ∧ n + (k) ≤ 8 * l.length ∧ zpre l 4 n 0 = zpre l (4 - (k)) (n + (k)) (k)) (fun k => 4 - (k)) (((0) : Nat)) [] (fun _ => rfl) (show (0) ≤ 4 ∧ n + (0) ≤ 8 * l.length ∧ zpre l 4 n 0 = zpre l (4 - (0)) (n + (0)) (0) from ⟨Nat.zero_le _, hn, rfl⟩) rfl ⟨rfl, rfl, rfl, trivial⟩ trivial (fun k hx => ?_)
  show W _ _ _ ⟨tOf [(0, u8V l), (1, SV.i (n + k : Nat)), (7, SV.i k)], hOf [], 0⟩
  have hx : k ≤ 4 ∧ n + k ≤ 8 * l.length ∧ zpre l 4 n 0 = zpre l (4 - k) (n + k) k := hx
  obtain ⟨hk, hkn, hz⟩ := hx
  refine W_seq ?_
  refine r1 ?_
  refine s1 14 0 1 rfl rfl rfl rfl rfl rfl trivial ?_
  refine s1 15 8 2 rfl rfl rfl rfl rfl rfl (by first | trivial | omega | (simp only [List.length_map, List.length_append, List.length_cons, List.length_nil] at *; omega)) ?_
  refine e1 16 rfl ?_
  refine keep [0, 1, 7, 15] rfl ?_
  refine q1 rfl (fun hc2 => ?_) (fun hc2 => ?_)
  · skip
    try simp only [decide_eq_true_eq, decide_eq_false_iff_not, Bool.not_eq_true', Bool.not_eq_false', beq_iff_eq, bne_iff_ne, beq_eq_false_iff_ne, Bool.and_eq_true, Bool.or_eq_true, Bool.and_eq_false_iff, Bool.or_eq_false_iff, ge_iff_le, gt_iff_lt, Int.not_lt, Int.not_le, ne_eq, Decidable.not_not, bne_eq_false_iff_eq] at hc2
    refine W_skip ?_
    refine tn ?_
    refine W_block ?_
    refine W_seq ?_
    refine r1 ?_
    refine s1 16 16 1 rfl rfl rfl rfl rfl rfl trivial ?_
    refine s1 17 24 2 rfl rfl rfl rfl rfl rfl trivial ?_
    refine s1 18 32 3 rfl rfl rfl rfl rfl rfl (by first | trivial | omega | (simp only [List.length_map, List.length_append, List.length_cons, List.length_nil] at *; omega)) ?_
    refine sA 19 40 4 rfl rfl rfl rfl rfl rfl rfl rfl rfl (by unfold inRange; omega) ?_
    refine s1 20 48 5 rfl rfl rfl rfl rfl rfl (by constructor <;> omega) ?_
    refine e1 56 rfl ?_
    refine keep [0, 1, 7, 20] rfl ?_
    refine q1 rfl (fun hc3 => ?_) (fun hc3 => ?_)
    · skip
      try simp only [decide_eq_true_eq, decide_eq_false_iff_not, Bool.not_eq_true', Bool.not_eq_false', beq_iff_eq, bne_iff_ne, beq_eq_false_iff_ne, Bool.and_eq_true, Bool.or_eq_true, Bool.and_eq_false_iff, Bool.or_eq_false_iff, ge_iff_le, gt_iff_lt, Int.not_lt, Int.not_le, ne_eq, Decidable.not_not, bne_eq_false_iff_eq] at hc3
      refine r1 ?_
      refine s1 4 56 1 rfl rfl rfl rfl rfl rfl trivial ?_
      refine s1 5 64 2 rfl rfl rfl rfl rfl rfl trivial ?_
      refine s1 6 72 3 rfl rfl rfl rfl rfl rfl trivial ?_
      refine e1 80 rfl ?_
      refine keep [4, 5, 6] rfl ?_
      refine W_ret ?_
      refine tr ?_
      refine br ?_
      refine tr ?_
      refine br ?_
      refine tr ?_
      have hzz := zgt_short (hz.trans (zpre_end l k (n + k) (by omega) (by omega)))
      exact out3 4 5 6 (SV.i (zgt l n).x) (SV.i (zgA l n : Nat)) (SV.i (zgt l n).e) (π := []) (hout := []) Tryd.results43 rfl rfl rfl (by rw [hzz]; rfl) (by unfold zgA; rw [hzz]; rfl) (by rw [hzz]; rfl) rfl rfl trivial ⟨rfl, rfl⟩
    · skip
      try simp only [decide_eq_true_eq, decide_eq_false_iff_not, Bool.not_eq_true', Bool.not_eq_false', beq_iff_eq, bne_iff_ne, beq_eq_false_iff_ne, Bool.and_eq_true, Bool.or_eq_true, Bool.and_eq_false_iff, Bool.or_eq_false_iff, ge_iff_le, gt_iff_lt, Int.not_lt, Int.not_le, ne_eq, Decidable.not_not, bne_eq_false_iff_eq] at hc3
      refine W_skip ?_
      refine tn ?_
      refine r1 ?_
      refine s1 21 56 1 rfl rfl rfl rfl rfl rfl trivial ?_
      refine s1 22 64 2 rfl rfl rfl rfl rfl rfl trivial ?_
      refine c1 (bitAt_any l hlb (n + k) (by omega)) [] [] 23 72 3 rfl rfl rfl rfl rfl rfl rfl rfl Tryd.func62 rfl rfl rfl rfl trivial rfl rfl ?_
      refine s1 8 80 4 rfl rfl rfl rfl rfl rfl trivial ?_
      refine e1 88 rfl ?_
      refine keep [0, 1, 7, 8] rfl ?_
      refine r1 ?_
      refine s1 24 88 1 rfl rfl rfl rfl rfl rfl trivial ?_
      refine sA 25 96 2 rfl rfl rfl rfl rfl rfl rfl rfl rfl (by unfold inRange; omega) ?_
      refine s1 1 104 3 rfl rfl rfl rfl rfl rfl trivial ?_
      refine e1 112 rfl ?_
      refine keep [0, 1, 7, 8] rfl ?_
      refine W_seq ?_
      refine r1 ?_
      refine s1 26 112 1 rfl rfl rfl rfl rfl rfl trivial ?_
      refine s1 27 120 2 rfl rfl rfl rfl rfl rfl (by first | trivial | omega | (simp only [List.length_map, List.length_append, List.length_cons, List.length_nil] at *; omega)) ?_
      refine e1 128 rfl ?_
      refine keep [0, 1, 7, 27] rfl ?_
      refine q1 rfl (fun hc7 => ?_) (fun hc7 => ?_)
      · skip
        try simp only [decide_eq_true_eq, decide_eq_false_iff_not, Bool.not_eq_true', Bool.not_eq_false', beq_iff_eq, bne_iff_ne, beq_eq_false_iff_ne, Bool.and_eq_true, Bool.or_eq_true, Bool.and_eq_false_iff, Bool.or_eq_false_iff, ge_iff_le, gt_iff_lt, Int.not_lt, Int.not_le, ne_eq, Decidable.not_not, bne_eq_false_iff_eq] at hc7
        refine W_exit ?_
        refine tx ?_
        refine bo rfl ?_
        refine tx ?_
        refine bx ?_
        refine tn ?_
        obtain ⟨q, m, hq, hz, hm, hek, hem⟩ : ∃ q m : Nat, q ≤ 4 ∧ zpre l 4 n 0 = (true, q, m) ∧ m ≤ 8 * l.length ∧ (k : Int) = q ∧ ((n + k : Nat) : Int) + 1 = m := ⟨k, n + k + 1, by omega, hz.trans (zpre_zero l k (n + k) (by omega) (by omega) hc7), by omega, rfl, by omega⟩
        refine cval 7 (SV.i q) rfl (by rw [hek]) ?_
        refine cval 1 (SV.i m) rfl (by rw [hem]) ?_
        have h59 := clB_59 q
        refine r1 ?_
        refine sLit 1 (intF wL) 30 128 1 rfl rfl rfl rfl rfl rfl rfl rfl rfl (by intro i c hi hc; obtain rfl : c = 0 := (by omega); rcases (show i = 0 ∨ i = 1 ∨ i = 2 ∨ i = 3 ∨ i = 4 by omega) with rfl | rfl | rfl | rfl | rfl <;> rfl) ?_
        refine s1 31 136 2 rfl rfl rfl rfl rfl rfl trivial ?_
        refine s1 32 144 3 rfl rfl rfl rfl rfl rfl (by constructor <;> omega) ?_
        refine s1 33 152 4 rfl rfl rfl rfl rfl rfl (by omega) ?_
        refine val 33 (SV.i (clB q)) rfl (congrArg (fun x => SV.d (D.val (Value.int .i64 x))) (by rw [Int.toNat_natCast]; exact wL_get hq)) ?_
        refine s1 9 160 5 rfl rfl rfl rfl rfl rfl trivial ?_
        refine e1 168 rfl ?_
        refine keep [0, 1, 7, 9] rfl ?_
        refine W_seq ?_
        refine r1 ?_
        refine s1 34 168 1 rfl rfl rfl rfl rfl rfl trivial ?_
        refine s1 35 176 2 rfl rfl rfl rfl rfl rfl trivial ?_
        refine sA 36 184 3 rfl rfl rfl rfl rfl rfl rfl rfl rfl (by unfold inRange; omega) ?_
        refine s1 37 192 4 rfl rfl rfl rfl rfl rfl trivial ?_
        refine s1 38 200 5 rfl rfl rfl rfl rfl rfl (by first | trivial | omega | (simp only [List.length_map, List.length_append, List.length_cons, List.length_nil] at *; omega)) ?_
        refine sA 39 208 6 rfl rfl rfl rfl rfl rfl rfl rfl rfl (by unfold inRange; omega) ?_
        refine s1 40 216 7 rfl rfl rfl rfl rfl rfl (by first | trivial | omega | (simp only [List.length_map, List.length_append, List.length_cons, List.length_nil] at *; omega)) ?_
        refine e1 224 rfl ?_
        refine keep [0, 1, 7, 9, 40] rfl ?_
        refine q1 rfl (fun hc10 => ?_) (fun hc10 => ?_)
        · skip
          try simp only [decide_eq_true_eq, decide_eq_false_iff_not, Bool.not_eq_true', Bool.not_eq_false', beq_iff_eq, bne_iff_ne, beq_eq_false_iff_ne, Bool.and_eq_true, Bool.or_eq_true, Bool.and_eq_false_iff, Bool.or_eq_false_iff, ge_iff_le, gt_iff_lt, Int.not_lt, Int.not_le, ne_eq, Decidable.not_not, bne_eq_false_iff_eq] at hc10
          refine r1 ?_
          refine s1 4 224 1 rfl rfl rfl rfl rfl rfl trivial ?_
          refine s1 5 232 2 rfl rfl rfl rfl rfl rfl trivial ?_
          refine s1 6 240 3 rfl rfl rfl rfl rfl rfl trivial ?_
          refine e1 248 rfl ?_
          refine keep [4, 5, 6] rfl ?_
          refine W_ret ?_
          refine tr ?_
          have hzz := zgt_short2 hz (by omega)
          exact out3 4 5 6 (SV.i (zgt l n).x) (SV.i (zgA l n : Nat)) (SV.i (zgt l n).e) (π := []) (hout := []) Tryd.results43 rfl rfl rfl (by rw [hzz]; rfl) (by unfold zgA; rw [hzz]; rfl) (by rw [hzz]; rfl) rfl rfl trivial ⟨rfl, rfl⟩
        · skip
          try simp only [decide_eq_true_eq, decide_eq_false_iff_not, Bool.not_eq_true', Bool.not_eq_false', beq_iff_eq, bne_iff_ne, beq_eq_false_iff_ne, Bool.and_eq_true, Bool.or_eq_true, Bool.and_eq_false_iff, Bool.or_eq_false_iff, ge_iff_le, gt_iff_lt, Int.not_lt, Int.not_le, ne_eq, Decidable.not_not, bne_eq_false_iff_eq] at hc10
          refine W_skip ?_
          refine tn ?_
          refine r1 ?_
          refine s1 10 224 1 rfl rfl rfl rfl rfl rfl trivial ?_
          refine e1 232 rfl ?_
          refine keep [0, 1, 7, 9, 10] rfl ?_
          refine W_seq ?_
          refine r1 ?_
          refine s1 11 232 1 rfl rfl rfl rfl rfl rfl trivial ?_
          refine e1 240 rfl ?_
          refine keep [0, 1, 7, 9, 10, 11] rfl ?_
          refine W_block ?_
          refine loop (α := Nat) 0 (fun j => [(0, u8V l), (1, SV.i m), (7, SV.i q), (9, SV.i (clB q)), (10, SV.i (numB l m (j))), (11, SV.i (j))]) (fun j => []) (fun j => (j) ≤ clB q) (fun j => clB q - (j)) (((0) : Nat)) [] (fun _ => rfl) (show (0) ≤ clB q from (Nat.zero_le _)) rfl ⟨rfl, rfl, rfl, rfl, rfl, rfl, trivial⟩ trivial (fun j hx => ?_)
          show W _ _ _ ⟨tOf [(0, u8V l), (1, SV.i m), (7, SV.i q), (9, SV.i (clB q)), (10, SV.i (numB l m j)), (11, SV.i j)], hOf [], 0⟩
          have hx : j ≤ clB q := hx
          refine W_seq ?_
          refine r1 ?_
          refine s1 41 0 1 rfl rfl rfl rfl rfl rfl trivial ?_
          refine s1 42 8 2 rfl rfl rfl rfl rfl rfl trivial ?_
          refine s1 43 16 3 rfl rfl rfl rfl rfl rfl (by first | trivial | omega | (simp only [List.length_map, List.length_append, List.length_cons, List.length_nil] at *; omega)) ?_
          refine e1 24 rfl ?_
          refine keep [0, 1, 7, 9, 10, 11, 43] rfl ?_
          refine q1 rfl (fun hc14 => ?_) (fun hc14 => ?_)
          · skip
            try simp only [decide_eq_true_eq, decide_eq_false_iff_not, Bool.not_eq_true', Bool.not_eq_false', beq_iff_eq, bne_iff_ne, beq_eq_false_iff_ne, Bool.and_eq_true, Bool.or_eq_true, Bool.and_eq_false_iff, Bool.or_eq_false_iff, ge_iff_le, gt_iff_lt, Int.not_lt, Int.not_le, ne_eq, Decidable.not_not, bne_eq_false_iff_eq] at hc14
            have hnum := num59 l m (show j + 1 ≤ 59 by omega)
            have hnum0 := num59 l m (show j ≤ 59 by omega)
            have hbb := bitB_bd l (m + j)
            have hrec : numB l m (j + 1) = 2 * numB l m j + bitB l (m + j) := rfl
            refine W_skip ?_
            refine tn ?_
            refine W_seq ?_
            refine W_block ?_
            refine r0 ?_
            refine s1 46 24 1 rfl rfl rfl rfl rfl rfl trivial ?_
            refine sA 47 32 2 rfl rfl rfl rfl rfl rfl rfl rfl rfl (by unfold inRange; omega) ?_
            refine s1 48 40 3 rfl rfl rfl rfl rfl rfl trivial ?_
            refine s1 49 48 4 rfl rfl rfl rfl rfl rfl trivial ?_
            refine s1 50 56 5 rfl rfl rfl rfl rfl rfl trivial ?_
            refine sA 51 64 6 rfl rfl rfl rfl rfl rfl rfl rfl rfl (by unfold inRange; omega) ?_
            refine c1 (bitAt_any l hlb (m + j) (by omega)) [] [] 52 72 7 rfl rfl rfl rfl rfl rfl rfl rfl Tryd.func62 rfl rfl rfl rfl trivial rfl rfl ?_
            refine sA 53 80 8 rfl rfl rfl rfl rfl rfl rfl rfl rfl (by unfold inRange; omega) ?_
            refine s1 10 88 9 rfl rfl rfl rfl rfl rfl trivial ?_
            refine e1 96 rfl ?_
            refine bn ?_
            refine tn ?_
            refine r0 ?_
            refine s1 44 96 1 rfl rfl rfl rfl rfl rfl trivial ?_
            refine sA 45 104 2 rfl rfl rfl rfl rfl rfl rfl rfl rfl (by unfold inRange; omega) ?_
            refine s1 11 112 3 rfl rfl rfl rfl rfl rfl trivial ?_
            refine e1 120 rfl ?_
            refine tn ?_
            exact again ((j + 1 : Nat)) [] (show (j + 1) ≤ clB q from (by omega)) (show clB q - (j + 1) < clB q - j from (by omega)) rfl ⟨rfl, rfl, rfl, rfl, rfl, rfl, trivial⟩ trivial
          · skip
            try simp only [decide_eq_true_eq, decide_eq_false_iff_not, Bool.not_eq_true', Bool.not_eq_false', beq_iff_eq, bne_iff_ne, beq_eq_false_iff_ne, Bool.and_eq_true, Bool.or_eq_true, Bool.and_eq_false_iff, Bool.or_eq_false_iff, ge_iff_le, gt_iff_lt, Int.not_lt, Int.not_le, ne_eq, Decidable.not_not, bne_eq_false_iff_eq] at hc14
            refine W_exit ?_
            refine tx ?_
            refine tx ?_
            refine bx ?_
            refine tn ?_
            refine W_seq ?_
            obtain rfl : j = clB q := (by omega)
            have hX := num59 l m h59
            have hX2 := (numB_bd l m (clB q)).2
            refine r1 ?_
            refine s1 54 24 1 rfl rfl rfl rfl rfl rfl trivial ?_
            refine s1 55 32 2 rfl rfl rfl rfl rfl rfl (by first | trivial | omega | (simp only [List.length_map, List.length_append, List.length_cons, List.length_nil] at *; omega)) ?_
            refine s1 56 40 3 rfl rfl rfl rfl rfl rfl trivial ?_
            refine ask 56 rfl (fun hg17_56 => ?_) (fun hg17_56 => ?_)
            · skip
              try simp only [decide_eq_true_eq, decide_eq_false_iff_not, Bool.not_eq_true', Bool.not_eq_false', beq_iff_eq, bne_iff_ne, beq_eq_false_iff_ne, Bool.and_eq_true, Bool.or_eq_true, Bool.and_eq_false_iff, Bool.or_eq_false_iff, ge_iff_le, gt_iff_lt, Int.not_lt, Int.not_le, ne_eq, Decidable.not_not, bne_eq_false_iff_eq] at hg17_56
              refine g1 2 true 56 57 4 rfl rfl rfl rfl rfl ?_
              refine s1 57 48 4 rfl rfl rfl rfl rfl rfl trivial ?_
              refine g1 2 true 56 58 5 rfl rfl rfl rfl rfl ?_
              refine sLit 1 (intF lowL) 58 56 5 rfl rfl rfl rfl rfl rfl rfl rfl rfl (by intro i c hi hc; obtain rfl : c = 0 := (by omega); rcases (show i = 0 ∨ i = 1 ∨ i = 2 ∨ i = 3 ∨ i = 4 by omega) with rfl | rfl | rfl | rfl | rfl <;> rfl) ?_
              refine g1 2 true 56 59 6 rfl rfl rfl rfl rfl ?_
              refine s1 59 64 6 rfl rfl rfl rfl rfl rfl trivial ?_
              refine g1 2 true 56 60 7 rfl rfl rfl rfl rfl ?_
              refine s1 60 72 7 rfl rfl rfl rfl rfl rfl (by constructor <;> omega) ?_
              refine g1 2 true 56 61 8 rfl rfl rfl rfl rfl ?_
              refine s1 61 80 8 rfl rfl rfl rfl rfl rfl (by omega) ?_
              refine val 61 (SV.i (lowL.getD q 0)) rfl (congrArg (fun x => SV.d (D.val (Value.int .i64 x))) (by rw [Int.toNat_natCast])) ?_
              refine g1 2 true 56 62 9 rfl rfl rfl rfl rfl ?_
              refine s1 62 88 9 rfl rfl rfl rfl rfl rfl (by first | trivial | omega | (simp only [List.length_map, List.length_append, List.length_cons, List.length_nil] at *; omega)) ?_
              refine s1 63 96 10 rfl rfl rfl rfl rfl rfl trivial ?_
              refine e1 104 rfl ?_
              refine keep [1, 9, 10, 63] rfl ?_
              refine q1 rfl (fun hc17 => ?_) (fun hc17 => ?_)
              · skip
                try simp only [decide_eq_true_eq, decide_eq_false_iff_not, Bool.not_eq_true', Bool.not_eq_false', beq_iff_eq, bne_iff_ne, beq_eq_false_iff_ne, Bool.and_eq_true, Bool.or_eq_true, Bool.and_eq_false_iff, Bool.or_eq_false_iff, ge_iff_le, gt_iff_lt, Int.not_lt, Int.not_le, ne_eq, Decidable.not_not, bne_eq_false_iff_eq] at hc17
                refine r1 ?_
                refine s1 4 104 1 rfl rfl rfl rfl rfl rfl trivial ?_
                refine s1 5 112 2 rfl rfl rfl rfl rfl rfl trivial ?_
                refine s1 6 120 3 rfl rfl rfl rfl rfl rfl trivial ?_
                refine e1 128 rfl ?_
                refine keep [4, 5, 6] rfl ?_
                refine W_ret ?_
                refine tr ?_
                have hzz := zgt_form hz (by omega) (fun e => ((cls_low hq hX.1 hX2).1 e) ⟨by omega, by assumption⟩)
                exact out3 4 5 6 (SV.i (zgt l n).x) (SV.i (zgA l n : Nat)) (SV.i (zgt l n).e) (π := []) (hout := []) Tryd.results43 rfl rfl rfl (by rw [hzz]; rfl) (by unfold zgA; rw [hzz]; rfl) (by rw [hzz]; rfl) rfl rfl trivial ⟨rfl, rfl⟩
              · skip
                try simp only [decide_eq_true_eq, decide_eq_false_iff_not, Bool.not_eq_true', Bool.not_eq_false', beq_iff_eq, bne_iff_ne, beq_eq_false_iff_ne, Bool.and_eq_true, Bool.or_eq_true, Bool.and_eq_false_iff, Bool.or_eq_false_iff, ge_iff_le, gt_iff_lt, Int.not_lt, Int.not_le, ne_eq, Decidable.not_not, bne_eq_false_iff_eq] at hc17
                refine W_skip ?_
                refine tn ?_
                have hcl : cls (numB l m (clB q)) = q := (cls_low hq hX.1 hX2).2 (by first | omega | (intro h; have := h.2; omega))
                refine r1 ?_
                refine s1 65 104 1 rfl rfl rfl rfl rfl rfl trivial ?_
                refine c1 (refUnf_any (numB l m (clB q)) hX.1 hX.2) [] [] 66 112 2 rfl rfl rfl rfl rfl rfl rfl rfl Tryd.func63 rfl rfl rfl rfl trivial rfl rfl ?_
                refine s1 64 120 3 rfl rfl rfl rfl rfl rfl trivial ?_
                refine s1 67 128 4 rfl rfl rfl rfl rfl rfl trivial ?_
                refine s1 68 136 5 rfl rfl rfl rfl rfl rfl trivial ?_
                refine s1 12 144 6 rfl rfl rfl rfl rfl rfl trivial ?_
                refine s1 13 152 7 rfl rfl rfl rfl rfl rfl trivial ?_
                refine e1 160 rfl ?_
                refine keep [1, 9, 12] rfl ?_
                refine r1 ?_
                refine s1 69 160 1 rfl rfl rfl rfl rfl rfl trivial ?_
                refine s1 70 168 2 rfl rfl rfl rfl rfl rfl trivial ?_
                refine s1 71 176 3 rfl rfl rfl rfl rfl rfl trivial ?_
                refine sA 72 184 4 rfl rfl rfl rfl rfl rfl rfl rfl rfl (by unfold inRange; omega) ?_
                refine s1 4 192 5 rfl rfl rfl rfl rfl rfl trivial ?_
                refine s1 5 200 6 rfl rfl rfl rfl rfl rfl trivial ?_
                refine s1 6 208 7 rfl rfl rfl rfl rfl rfl trivial ?_
                refine e1 216 rfl ?_
                refine keep [4, 5, 6] rfl ?_
                refine W_ret ?_
                have hzz := zgt_ok hz (by omega) hcl
                exact out3 4 5 6 (SV.i (zgt l n).x) (SV.i (zgA l n : Nat)) (SV.i (zgt l n).e) (π := []) (hout := []) Tryd.results43 rfl rfl rfl (by rw [hzz]; rfl) (by unfold zgA; rw [hzz]; rfl) (by rw [hzz]; rfl) rfl rfl trivial ⟨rfl, rfl⟩
            · skip
              try simp only [decide_eq_true_eq, decide_eq_false_iff_not, Bool.not_eq_true', Bool.not_eq_false', beq_iff_eq, bne_iff_ne, beq_eq_false_iff_ne, Bool.and_eq_true, Bool.or_eq_true, Bool.and_eq_false_iff, Bool.or_eq_false_iff, ge_iff_le, gt_iff_lt, Int.not_lt, Int.not_le, ne_eq, Decidable.not_not, bne_eq_false_iff_eq] at hg17_56
              refine g0 2 true 56 57 4 rfl rfl rfl rfl rfl rfl ?_
              refine g0 2 true 56 58 5 rfl rfl rfl rfl rfl rfl ?_
              refine g0 2 true 56 59 6 rfl rfl rfl rfl rfl rfl ?_
              refine g0 2 true 56 60 7 rfl rfl rfl rfl rfl rfl ?_
              refine g0 2 true 56 61 8 rfl rfl rfl rfl rfl rfl ?_
              refine g0 2 true 56 62 9 rfl rfl rfl rfl rfl rfl ?_
              refine s1 63 96 10 rfl rfl rfl rfl rfl rfl trivial ?_
              refine e1 104 rfl ?_
              refine keep [1, 9, 10, 63] rfl ?_
              refine q1 rfl (fun hc17 => ?_) (fun hc17 => ?_)
              · skip
                exact absurd hc17 (by decide)
              · skip
                try simp only [decide_eq_true_eq, decide_eq_false_iff_not, Bool.not_eq_true', Bool.not_eq_false', beq_iff_eq, bne_iff_ne, beq_eq_false_iff_ne, Bool.and_eq_true, Bool.or_eq_true, Bool.and_eq_false_iff, Bool.or_eq_false_iff, ge_iff_le, gt_iff_lt, Int.not_lt, Int.not_le, ne_eq, Decidable.not_not, bne_eq_false_iff_eq] at hc17
                refine W_skip ?_
                refine tn ?_
                have hcl : cls (numB l m (clB q)) = q := (cls_low hq hX.1 hX2).2 (by first | omega | (intro h; have := h.2; omega))
                refine r1 ?_
                refine s1 65 104 1 rfl rfl rfl rfl rfl rfl trivial ?_
                refine c1 (refUnf_any (numB l m (clB q)) hX.1 hX.2) [] [] 66 112 2 rfl rfl rfl rfl rfl rfl rfl rfl Tryd.func63 rfl rfl rfl rfl trivial rfl rfl ?_
                refine s1 64 120 3 rfl rfl rfl rfl rfl rfl trivial ?_
                refine s1 67 128 4 rfl rfl rfl rfl rfl rfl trivial ?_
                refine s1 68 136 5 rfl rfl rfl rfl rfl rfl trivial ?_
                refine s1 12 144 6 rfl rfl rfl rfl rfl rfl trivial ?_
                refine s1 13 152 7 rfl rfl rfl rfl rfl rfl trivial ?_
                refine e1 160 rfl ?_
                refine keep [1, 9, 12] rfl ?_
                refine r1 ?_
                refine s1 69 160 1 rfl rfl rfl rfl rfl rfl trivial ?_
                refine s1 70 168 2 rfl rfl rfl rfl rfl rfl trivial ?_
                refine s1 71 176 3 rfl rfl rfl rfl rfl rfl trivial ?_
                refine sA 72 184 4 rfl rfl rfl rfl rfl rfl rfl rfl rfl (by unfold inRange; omega) ?_
                refine s1 4 192 5 rfl rfl rfl rfl rfl rfl trivial ?_
                refine s1 5 200 6 rfl rfl rfl rfl rfl rfl trivial ?_
                refine s1 6 208 7 rfl rfl rfl rfl rfl rfl trivial ?_
                refine e1 216 rfl ?_
                refine keep [4, 5, 6] rfl ?_
                refine W_ret ?_
                have hzz := zgt_ok hz (by omega) hcl
                exact out3 4 5 6 (SV.i (zgt l n).x) (SV.i (zgA l n : Nat)) (SV.i (zgt l n).e) (π := []) (hout := []) Tryd.results43 rfl rfl rfl (by rw [hzz]; rfl) (by unfold zgA; rw [hzz]; rfl) (by rw [hzz]; rfl) rfl rfl trivial ⟨rfl, rfl⟩
      · skip
        try simp only [decide_eq_true_eq, decide_eq_false_iff_not, Bool.not_eq_true', Bool.not_eq_false', beq_iff_eq, bne_iff_ne, beq_eq_false_iff_ne, Bool.and_eq_true, Bool.or_eq_true, Bool.and_eq_false_iff, Bool.or_eq_false_iff, ge_iff_le, gt_iff_lt, Int.not_lt, Int.not_le, ne_eq, Decidable.not_not, bne_eq_false_iff_eq] at hc7
        refine W_skip ?_
        refine tn ?_
        refine r0 ?_
        refine s1 28 128 1 rfl rfl rfl rfl rfl rfl trivial ?_
        refine sA 29 136 2 rfl rfl rfl rfl rfl rfl rfl rfl rfl (by unfold inRange; omega) ?_
        refine s1 7 144 3 rfl rfl rfl rfl rfl rfl trivial ?_
        refine e1 152 rfl ?_
        refine bn ?_
        refine tn ?_
        exact again ((k + 1 : Nat)) [] (show (k + 1) ≤ 4 ∧ n + (k + 1) ≤ 8 * l.length ∧ zpre l 4 n 0 = zpre l (4 - (k + 1)) (n + (k + 1)) (k + 1) from ⟨by omega, by omega, hz.trans (zpre_one l k (n + k) (by omega) (by omega) hc7)⟩) (show 4 - (k + 1) < 4 - k from (by omega)) rfl ⟨rfl, rfl, rfl, trivial⟩ trivial
  · skip
    try simp only [decide_eq_true_eq, decide_eq_false_iff_not, Bool.not_eq_true', Bool.not_eq_false', beq_iff_eq, bne_iff_ne, beq_eq_false_iff_ne, Bool.and_eq_true, Bool.or_eq_true, Bool.and_eq_false_iff, Bool.or_eq_false_iff, ge_iff_le, gt_iff_lt, Int.not_lt, Int.not_le, ne_eq, Decidable.not_not, bne_eq_false_iff_eq] at hc2
    refine W_exit ?_
    refine tx ?_
    refine tx ?_
    refine bx ?_
    refine tn ?_
    obtain ⟨q, m, hq, hz, hm, hek, hem⟩ : ∃ q m : Nat, q ≤ 4 ∧ zpre l 4 n 0 = (true, q, m) ∧ m ≤ 8 * l.length ∧ (k : Int) = q ∧ ((n + k : Nat) : Int) = m := ⟨4, n + k, by omega, by rw [hz, show k = 4 by omega]; rfl, hkn, by omega, rfl⟩
    refine cval 7 (SV.i q) rfl (by rw [hek]) ?_
    refine cval 1 (SV.i m) rfl (by rw [hem]) ?_
    have h59 := clB_59 q
    refine r1 ?_
    refine sLit 1 (intF wL) 30 16 1 rfl rfl rfl rfl rfl rfl rfl rfl rfl (by intro i c hi hc; obtain rfl : c = 0 := (by omega); rcases (show i = 0 ∨ i = 1 ∨ i = 2 ∨ i = 3 ∨ i = 4 by omega) with rfl | rfl | rfl | rfl | rfl <;> rfl) ?_
    refine s1 31 24 2 rfl rfl rfl rfl rfl rfl trivial ?_
    refine s1 32 32 3 rfl rfl rfl rfl rfl rfl (by constructor <;> omega) ?_
    refine s1 33 40 4 rfl rfl rfl rfl rfl rfl (by omega) ?_
    refine val 33 (SV.i (clB q)) rfl (congrArg (fun x => SV.d (D.val (Value.int .i64 x))) (by rw [Int.toNat_natCast]; exact wL_get hq)) ?_
    refine s1 9 48 5 rfl rfl rfl rfl rfl rfl trivial ?_
    refine e1 56 rfl ?_
    refine keep [0, 1, 7, 9] rfl ?_
    refine W_seq ?_
    refine r1 ?_
    refine s1 34 56 1 rfl rfl rfl rfl rfl rfl trivial ?_
    refine s1 35 64 2 rfl rfl rfl rfl rfl rfl trivial ?_
    refine sA 36 72 3 rfl rfl rfl rfl rfl rfl rfl rfl rfl (by unfold inRange; omega) ?_
    refine s1 37 80 4 rfl rfl rfl rfl rfl rfl trivial ?_
    refine s1 38 88 5 rfl rfl rfl rfl rfl rfl (by first | trivial | omega | (simp only [List.length_map, List.length_append, List.length_cons, List.length_nil] at *; omega)) ?_
    refine sA 39 96 6 rfl rfl rfl rfl rfl rfl rfl rfl rfl (by unfold inRange; omega) ?_
    refine s1 40 104 7 rfl rfl rfl rfl rfl rfl (by first | trivial | omega | (simp only [List.length_map, List.length_append, List.length_cons, List.length_nil] at *; omega)) ?_
    refine e1 112 rfl ?_
    refine keep [0, 1, 7, 9, 40] rfl ?_
    refine q1 rfl (fun hc10 => ?_) (fun hc10 => ?_)
    · skip
      try simp only [decide_eq_true_eq, decide_eq_false_iff_not, Bool.not_eq_true', Bool.not_eq_false', beq_iff_eq, bne_iff_ne, beq_eq_false_iff_ne, Bool.and_eq_true, Bool.or_eq_true, Bool.and_eq_false_iff, Bool.or_eq_false_iff, ge_iff_le, gt_iff_lt, Int.not_lt, Int.not_le, ne_eq, Decidable.not_not, bne_eq_false_iff_eq] at hc10
      refine r1 ?_
      refine s1 4 112 1 rfl rfl rfl rfl rfl rfl trivial ?_
      refine s1 5 120 2 rfl rfl rfl rfl rfl rfl trivial ?_
      refine s1 6 128 3 rfl rfl rfl rfl rfl rfl trivial ?_
      refine e1 136 rfl ?_
      refine keep [4, 5, 6] rfl ?_
      refine W_ret ?_
      refine tr ?_
      have hzz := zgt_short2 hz (by omega)
      exact out3 4 5 6 (SV.i (zgt l n).x) (SV.i (zgA l n : Nat)) (SV.i (zgt l n).e) (π := []) (hout := []) Tryd.results43 rfl rfl rfl (by rw [hzz]; rfl) (by unfold zgA; rw [hzz]; rfl) (by rw [hzz]; rfl) rfl rfl trivial ⟨rfl, rfl⟩
    · skip
      try simp only [decide_eq_true_eq, decide_eq_false_iff_not, Bool.not_eq_true', Bool.not_eq_false', beq_iff_eq, bne_iff_ne, beq_eq_false_iff_ne, Bool.and_eq_true, Bool.or_eq_true, Bool.and_eq_false_iff, Bool.or_eq_false_iff, ge_iff_le, gt_iff_lt, Int.not_lt, Int.not_le, ne_eq, Decidable.not_not, bne_eq_false_iff_eq] at hc10
      refine W_skip ?_
      refine tn ?_
      refine r1 ?_
      refine s1 10 112 1 rfl rfl rfl rfl rfl rfl trivial ?_
      refine e1 120 rfl ?_
      refine keep [0, 1, 7, 9, 10] rfl ?_
      refine W_seq ?_
      refine r1 ?_
      refine s1 11 120 1 rfl rfl rfl rfl rfl rfl trivial ?_
      refine e1 128 rfl ?_
      refine keep [0, 1, 7, 9, 10, 11] rfl ?_
      refine W_block ?_
      refine loop (α := Nat) 0 (fun j => [(0, u8V l), (1, SV.i m), (7, SV.i q), (9, SV.i (clB q)), (10, SV.i (numB l m (j))), (11, SV.i (j))]) (fun j => []) (fun j => (j) ≤ clB q) (fun j => clB q - (j)) (((0) : Nat)) [] (fun _ => rfl) (show (0) ≤ clB q from (Nat.zero_le _)) rfl ⟨rfl, rfl, rfl, rfl, rfl, rfl, trivial⟩ trivial (fun j hx => ?_)
      show W _ _ _ ⟨tOf [(0, u8V l), (1, SV.i m), (7, SV.i q), (9, SV.i (clB q)), (10, SV.i (numB l m j)), (11, SV.i j)], hOf [], 0⟩
      have hx : j ≤ clB q := hx
      refine W_seq ?_
      refine r1 ?_
      refine s1 41 0 1 rfl rfl rfl rfl rfl rfl trivial ?_
      refine s1 42 8 2 rfl rfl rfl rfl rfl rfl trivial ?_
      refine s1 43 16 3 rfl rfl rfl rfl rfl rfl (by first | trivial | omega | (simp only [List.length_map, List.length_append, List.length_cons, List.length_nil] at *; omega)) ?_
      refine e1 24 rfl ?_
      refine keep [0, 1, 7, 9, 10, 11, 43] rfl ?_
      refine q1 rfl (fun hc14 => ?_) (fun hc14 => ?_)
      · skip
        try simp only [decide_eq_true_eq, decide_eq_false_iff_not, Bool.not_eq_true', Bool.not_eq_false', beq_iff_eq, bne_iff_ne, beq_eq_false_iff_ne, Bool.and_eq_true, Bool.or_eq_true, Bool.and_eq_false_iff, Bool.or_eq_false_iff, ge_iff_le, gt_iff_lt, Int.not_lt, Int.not_le, ne_eq, Decidable.not_not, bne_eq_false_iff_eq] at hc14
        have hnum := num59 l m (show j + 1 ≤ 59 by omega)
        have hnum0 := num59 l m (show j ≤ 59 by omega)
        have hbb := bitB_bd l (m + j)
        have hrec : numB l m (j + 1) = 2 * numB l m j + bitB l (m + j) := rfl
        refine W_skip ?_
        refine tn ?_
        refine W_seq ?_
        refine W_block ?_
        refine r0 ?_
        refine s1 46 24 1 rfl rfl rfl rfl rfl rfl trivial ?_
        refine sA 47 32 2 rfl rfl rfl rfl rfl rfl rfl rfl rfl (by unfold inRange; omega) ?_
        refine s1 48 40 3 rfl rfl rfl rfl rfl rfl trivial ?_
        refine s1 49 48 4 rfl rfl rfl rfl rfl rfl trivial ?_
        refine s1 50 56 5 rfl rfl rfl rfl rfl rfl trivial ?_
        refine sA 51 64 6 rfl rfl rfl rfl rfl rfl rfl rfl rfl (by unfold inRange; omega) ?_
        refine c1 (bitAt_any l hlb (m + j) (by omega)) [] [] 52 72 7 rfl rfl rfl rfl rfl rfl rfl rfl Tryd.func62 rfl rfl rfl rfl trivial rfl rfl ?_
        refine sA 53 80 8 rfl rfl rfl rfl rfl rfl rfl rfl rfl (by unfold inRange; omega) ?_
        refine s1 10 88 9 rfl rfl rfl rfl rfl rfl trivial ?_
        refine e1 96 rfl ?_
        refine bn ?_
        refine tn ?_
        refine r0 ?_
        refine s1 44 96 1 rfl rfl rfl rfl rfl rfl trivial ?_
        refine sA 45 104 2 rfl rfl rfl rfl rfl rfl rfl rfl rfl (by unfold inRange; omega) ?_
        refine s1 11 112 3 rfl rfl rfl rfl rfl rfl trivial ?_
        refine e1 120 rfl ?_
        refine tn ?_
        exact again ((j + 1 : Nat)) [] (show (j + 1) ≤ clB q from (by omega)) (show clB q - (j + 1) < clB q - j from (by omega)) rfl ⟨rfl, rfl, rfl, rfl, rfl, rfl, trivial⟩ trivial
      · skip
        try simp only [decide_eq_true_eq, decide_eq_false_iff_not, Bool.not_eq_true', Bool.not_eq_false', beq_iff_eq, bne_iff_ne, beq_eq_false_iff_ne, Bool.and_eq_true, Bool.or_eq_true, Bool.and_eq_false_iff, Bool.or_eq_false_iff, ge_iff_le, gt_iff_lt, Int.not_lt, Int.not_le, ne_eq, Decidable.not_not, bne_eq_false_iff_eq] at hc14
        refine W_exit ?_
        refine tx ?_
        refine tx ?_
        refine bx ?_
        refine tn ?_
        refine W_seq ?_
        obtain rfl : j = clB q := (by omega)
        have hX := num59 l m h59
        have hX2 := (numB_bd l m (clB q)).2
        refine r1 ?_
        refine s1 54 24 1 rfl rfl rfl rfl rfl rfl trivial ?_
        refine s1 55 32 2 rfl rfl rfl rfl rfl rfl (by first | trivial | omega | (simp only [List.length_map, List.length_append, List.length_cons, List.length_nil] at *; omega)) ?_
        refine s1 56 40 3 rfl rfl rfl rfl rfl rfl trivial ?_
        refine ask 56 rfl (fun hg17_56 => ?_) (fun hg17_56 => ?_)
        · skip
          try simp only [decide_eq_true_eq, decide_eq_false_iff_not, Bool.not_eq_true', Bool.not_eq_false', beq_iff_eq, bne_iff_ne, beq_eq_false_iff_ne, Bool.and_eq_true, Bool.or_eq_true, Bool.and_eq_false_iff, Bool.or_eq_false_iff, ge_iff_le, gt_iff_lt, Int.not_lt, Int.not_le, ne_eq, Decidable.not_not, bne_eq_false_iff_eq] at hg17_56
          refine g1 2 true 56 57 4 rfl rfl rfl rfl rfl ?_
          refine s1 57 48 4 rfl rfl rfl rfl rfl rfl trivial ?_
          refine g1 2 true 56 58 5 rfl rfl rfl rfl rfl ?_
          refine sLit 1 (intF lowL) 58 56 5 rfl rfl rfl rfl rfl rfl rfl rfl rfl (by intro i c hi hc; obtain rfl : c = 0 := (by omega); rcases (show i = 0 ∨ i = 1 ∨ i = 2 ∨ i = 3 ∨ i = 4 by omega) with rfl | rfl | rfl | rfl | rfl <;> rfl) ?_
          refine g1 2 true 56 59 6 rfl rfl rfl rfl rfl ?_
          refine s1 59 64 6 rfl rfl rfl rfl rfl rfl trivial ?_
          refine g1 2 true 56 60 7 rfl rfl rfl rfl rfl ?_
          refine s1 60 72 7 rfl rfl rfl rfl rfl rfl (by constructor <;> omega) ?_
          refine g1 2 true 56 61 8 rfl rfl rfl rfl rfl ?_
          refine s1 61 80 8 rfl rfl rfl rfl rfl rfl (by omega) ?_
          refine val 61 (SV.i (lowL.getD q 0)) rfl (congrArg (fun x => SV.d (D.val (Value.int .i64 x))) (by rw [Int.toNat_natCast])) ?_
          refine g1 2 true 56 62 9 rfl rfl rfl rfl rfl ?_
          refine s1 62 88 9 rfl rfl rfl rfl rfl rfl (by first | trivial | omega | (simp only [List.length_map, List.length_append, List.length_cons, List.length_nil] at *; omega)) ?_
          refine s1 63 96 10 rfl rfl rfl rfl rfl rfl trivial ?_
          refine e1 104 rfl ?_
          refine keep [1, 9, 10, 63] rfl ?_
          refine q1 rfl (fun hc17 => ?_) (fun hc17 => ?_)
          · skip
            try simp only [decide_eq_true_eq, decide_eq_false_iff_not, Bool.not_eq_true', Bool.not_eq_false', beq_iff_eq, bne_iff_ne, beq_eq_false_iff_ne, Bool.and_eq_true, Bool.or_eq_true, Bool.and_eq_false_iff, Bool.or_eq_false_iff, ge_iff_le, gt_iff_lt, Int.not_lt, Int.not_le, ne_eq, Decidable.not_not, bne_eq_false_iff_eq] at hc17
            refine r1 ?_
            refine s1 4 104 1 rfl rfl rfl rfl rfl rfl trivial ?_
            refine s1 5 112 2 rfl rfl rfl rfl rfl rfl trivial ?_
            refine s1 6 120 3 rfl rfl rfl rfl rfl rfl trivial ?_
            refine e1 128 rfl ?_
            refine keep [4, 5, 6] rfl ?_
            refine W_ret ?_
            refine tr ?_
            have hzz := zgt_form hz (by omega) (fun e => ((cls_low hq hX.1 hX2).1 e) ⟨by omega, by assumption⟩)
            exact out3 4 5 6 (SV.i (zgt l n).x) (SV.i (zgA l n : Nat)) (SV.i (zgt l n).e) (π := []) (hout := []) Tryd.results43 rfl rfl rfl (by rw [hzz]; rfl) (by unfold zgA; rw [hzz]; rfl) (by rw [hzz]; rfl) rfl rfl trivial ⟨rfl, rfl⟩
          · skip
            try simp only [decide_eq_true_eq, decide_eq_false_iff_not, Bool.not_eq_true', Bool.not_eq_false', beq_iff_eq, bne_iff_ne, beq_eq_false_iff_ne, Bool.and_eq_true, Bool.or_eq_true, Bool.and_eq_false_iff, Bool.or_eq_false_iff, ge_iff_le, gt_iff_lt, Int.not_lt, Int.not_le, ne_eq, Decidable.not_not, bne_eq_false_iff_eq] at hc17
            refine W_skip ?_
            refine tn ?_
            have hcl : cls (numB l m (clB q)) = q := (cls_low hq hX.1 hX2).2 (by first | omega | (intro h; have := h.2; omega))
            refine r1 ?_
            refine s1 65 104 1 rfl rfl rfl rfl rfl rfl trivial ?_
            refine c1 (refUnf_any (numB l m (clB q)) hX.1 hX.2) [] [] 66 112 2 rfl rfl rfl rfl rfl rfl rfl rfl Tryd.func63 rfl rfl rfl rfl trivial rfl rfl ?_
            refine s1 64 120 3 rfl rfl rfl rfl rfl rfl trivial ?_
            refine s1 67 128 4 rfl rfl rfl rfl rfl rfl trivial ?_
            refine s1 68 136 5 rfl rfl rfl rfl rfl rfl trivial ?_
            refine s1 12 144 6 rfl rfl rfl rfl rfl rfl trivial ?_
            refine s1 13 152 7 rfl rfl rfl rfl rfl rfl trivial ?_
            refine e1 160 rfl ?_
            refine keep [1, 9, 12] rfl ?_
            refine r1 ?_
            refine s1 69 160 1 rfl rfl rfl rfl rfl rfl trivial ?_
            refine s1 70 168 2 rfl rfl rfl rfl rfl rfl trivial ?_
            refine s1 71 176 3 rfl rfl rfl rfl rfl rfl trivial ?_
            refine sA 72 184 4 rfl rfl rfl rfl rfl rfl rfl rfl rfl (by unfold inRange; omega) ?_
            refine s1 4 192 5 rfl rfl rfl rfl rfl rfl trivial ?_
            refine s1 5 200 6 rfl rfl rfl rfl rfl rfl trivial ?_
            refine s1 6 208 7 rfl rfl rfl rfl rfl rfl trivial ?_
            refine e1 216 rfl ?_
            refine keep [4, 5, 6] rfl ?_
            refine W_ret ?_
            have hzz := zgt_ok hz (by omega) hcl
            exact out3 4 5 6 (SV.i (zgt l n).x) (SV.i (zgA l n : Nat)) (SV.i (zgt l n).e) (π := []) (hout := []) Tryd.results43 rfl rfl rfl (by rw [hzz]; rfl) (by unfold zgA; rw [hzz]; rfl) (by rw [hzz]; rfl) rfl rfl trivial ⟨rfl, rfl⟩
        · skip
          try simp only [decide_eq_true_eq, decide_eq_false_iff_not, Bool.not_eq_true', Bool.not_eq_false', beq_iff_eq, bne_iff_ne, beq_eq_false_iff_ne, Bool.and_eq_true, Bool.or_eq_true, Bool.and_eq_false_iff, Bool.or_eq_false_iff, ge_iff_le, gt_iff_lt, Int.not_lt, Int.not_le, ne_eq, Decidable.not_not, bne_eq_false_iff_eq] at hg17_56
          refine g0 2 true 56 57 4 rfl rfl rfl rfl rfl rfl ?_
          refine g0 2 true 56 58 5 rfl rfl rfl rfl rfl rfl ?_
          refine g0 2 true 56 59 6 rfl rfl rfl rfl rfl rfl ?_
          refine g0 2 true 56 60 7 rfl rfl rfl rfl rfl rfl ?_
          refine g0 2 true 56 61 8 rfl rfl rfl rfl rfl rfl ?_
          refine g0 2 true 56 62 9 rfl rfl rfl rfl rfl rfl ?_
          refine s1 63 96 10 rfl rfl rfl rfl rfl rfl trivial ?_
          refine e1 104 rfl ?_
          refine keep [1, 9, 10, 63] rfl ?_
          refine q1 rfl (fun hc17 => ?_) (fun hc17 => ?_)
          · skip
            exact absurd hc17 (by decide)
          · skip
            try simp only [decide_eq_true_eq, decide_eq_false_iff_not, Bool.not_eq_true', Bool.not_eq_false', beq_iff_eq, bne_iff_ne, beq_eq_false_iff_ne, Bool.and_eq_true, Bool.or_eq_true, Bool.and_eq_false_iff, Bool.or_eq_false_iff, ge_iff_le, gt_iff_lt, Int.not_lt, Int.not_le, ne_eq, Decidable.not_not, bne_eq_false_iff_eq] at hc17
            refine W_skip ?_
            refine tn ?_
            have hcl : cls (numB l m (clB q)) = q := (cls_low hq hX.1 hX2).2 (by first | omega | (intro h; have := h.2; omega))
            refine r1 ?_
            refine s1 65 104 1 rfl rfl rfl rfl rfl rfl trivial ?_
            refine c1 (refUnf_any (numB l m (clB q)) hX.1 hX.2) [] [] 66 112 2 rfl rfl rfl rfl rfl rfl rfl rfl Tryd.func63 rfl rfl rfl rfl trivial rfl rfl ?_
            refine s1 64 120 3 rfl rfl rfl rfl rfl rfl trivial ?_
            refine s1 67 128 4 rfl rfl rfl rfl rfl rfl trivial ?_
            refine s1 68 136 5 rfl rfl rfl rfl rfl rfl trivial ?_
            refine s1 12 144 6 rfl rfl rfl rfl rfl rfl trivial ?_
            refine s1 13 152 7 rfl rfl rfl rfl rfl rfl trivial ?_
            refine e1 160 rfl ?_
            refine keep [1, 9, 12] rfl ?_
            refine r1 ?_
            refine s1 69 160 1 rfl rfl rfl rfl rfl rfl trivial ?_
            refine s1 70 168 2 rfl rfl rfl rfl rfl rfl trivial ?_
            refine s1 71 176 3 rfl rfl rfl rfl rfl rfl trivial ?_
            refine sA 72 184 4 rfl rfl rfl rfl rfl rfl rfl rfl rfl (by unfold inRange; omega) ?_
            refine s1 4 192 5 rfl rfl rfl rfl rfl rfl trivial ?_
            refine s1 5 200 6 rfl rfl rfl rfl rfl rfl trivial ?_
            refine s1 6 208 7 rfl rfl rfl rfl rfl rfl trivial ?_
            refine e1 216 rfl ?_
            refine keep [4, 5, 6] rfl ?_
            refine W_ret ?_
            have hzz := zgt_ok hz (by omega) hcl
            exact out3 4 5 6 (SV.i (zgt l n).x) (SV.i (zgA l n : Nat)) (SV.i (zgt l n).e) (π := []) (hout := []) Tryd.results43 rfl rfl rfl (by rw [hzz]; rfl) (by unfold zgA; rw [hzz]; rfl) (by rw [hzz]; rfl) rfl rfl trivial ⟨rfl, rfl⟩

theorem refSame_any (x y : List Int) (hx : Bytes x) (hy : Bytes y) : Spec Tryd.prog GC 44 [u8V x, u8V y] [] (fun r ho => r = SV.b (decide (x = y)) ∧ ho = []) := by
  refine start 10 0 Tryd.func44 rfl rfl rfl rfl ?_
  refine r1 ?_
  refine s1 4 0 1 rfl rfl rfl rfl rfl rfl trivial ?_
  refine e1 8 rfl ?_
  refine keep [0, 1] rfl ?_
  refine r1 ?_
  refine s1 5 8 1 rfl rfl rfl rfl rfl rfl trivial ?_
  refine sStr (bstr x) 6 16 2 rfl rfl rfl rfl rfl rfl rfl rfl rfl rfl (bstr_len x) (bstr_get hx) ?_
  refine s1 7 24 3 rfl rfl rfl rfl rfl rfl trivial ?_
  refine sStr (bstr y) 8 32 4 rfl rfl rfl rfl rfl rfl rfl rfl rfl rfl (bstr_len y) (bstr_get hy) ?_
  refine s1 9 40 5 rfl rfl rfl rfl rfl rfl (by first | trivial | omega | (simp only [List.length_map, List.length_append, List.length_cons, List.length_nil] at *; omega)) ?_
  refine s1 4 48 6 rfl rfl rfl rfl rfl rfl trivial ?_
  refine e1 56 rfl ?_
  refine keep [4] rfl ?_
  refine W_ret ?_
  exact out1 4 (SV.b (decide (x = y))) (π := []) (hout := []) Tryd.results44 rfl (by show SV.b _ = SV.b _; refine congrArg SV.b (Bool.eq_iff_iff.2 ?_); simp only [decide_eq_true_eq, beq_iff_eq]; exact ⟨fun h => bstr_inj hx hy (by simpa using h), fun h => by rw [h]⟩) rfl rfl trivial ⟨rfl, rfl⟩

theorem sfault_own (l : List Smp) (hin : l.length ≤ 1000000) : Spec Tryd.prog GC 32 [.sl 0 0 l.length] [.rows 49 2 l.length (smpF l)] (fun r ho => r = SV.i (sfault l) ∧ ho = [some (.rows 49 2 l.length (smpF l))]) := by
  refine start 39 1 Tryd.func32 rfl rfl rfl rfl ?_
  refine r1 ?_
  refine s1 2 1 1 rfl rfl rfl rfl rfl rfl trivial ?_
  refine e1 9 rfl ?_
  refine keep [0] rfl ?_
  refine W_seq ?_
  refine r1 ?_
  refine s1 5 9 1 rfl rfl rfl rfl rfl rfl trivial ?_
  refine s1 6 17 2 rfl rfl rfl rfl rfl rfl (by first | trivial | omega | (simp only [List.length_map, List.length_append, List.length_cons, List.length_nil] at *; omega)) ?_
  refine s1 7 25 3 rfl rfl rfl rfl rfl rfl (by first | trivial | omega | (simp only [List.length_map, List.length_append, List.length_cons, List.length_nil] at *; omega)) ?_
  refine e1 33 rfl ?_
  refine keep [0, 7] rfl ?_
  refine q1 rfl (fun hc1 => ?_) (fun hc1 => ?_)
  · skip
    try simp only [decide_eq_true_eq, decide_eq_false_iff_not, Bool.not_eq_true', Bool.not_eq_false', beq_iff_eq, bne_iff_ne, beq_eq_false_iff_ne, Bool.and_eq_true, Bool.or_eq_true, Bool.and_eq_false_iff, Bool.or_eq_false_iff, ge_iff_le, gt_iff_lt, Int.not_lt, Int.not_le, ne_eq, Decidable.not_not, bne_eq_false_iff_eq] at hc1
    refine r1 ?_
    refine s1 2 33 1 rfl rfl rfl rfl rfl rfl trivial ?_
    refine e1 41 rfl ?_
    refine keep [2] rfl ?_
    refine W_ret ?_
    refine tr ?_
    exact out1 2 (SV.i (sfault l)) (π := [0]) (hout := [some (.rows 49 2 l.length (smpF l))]) Tryd.results32 rfl (by unfold sfault; rw [if_pos (by omega)]; rfl) rfl rfl ⟨rfl, trivial⟩ ⟨rfl, rfl⟩
  · skip
    try simp only [decide_eq_true_eq, decide_eq_false_iff_not, Bool.not_eq_true', Bool.not_eq_false', beq_iff_eq, bne_iff_ne, beq_eq_false_iff_ne, Bool.and_eq_true, Bool.or_eq_true, Bool.and_eq_false_iff, Bool.or_eq_false_iff, ge_iff_le, gt_iff_lt, Int.not_lt, Int.not_le, ne_eq, Decidable.not_not, bne_eq_false_iff_eq] at hc1
    refine W_skip ?_
    refine tn ?_
    refine W_seq ?_
    refine r1 ?_
    refine s1 8 33 1 rfl rfl rfl rfl rfl rfl trivial ?_
    refine s1 9 41 2 rfl rfl rfl rfl rfl rfl (by first | trivial | omega | (simp only [List.length_map, List.length_append, List.length_cons, List.length_nil] at *; omega)) ?_
    refine s1 10 49 3 rfl rfl rfl rfl rfl rfl trivial ?_
    refine e1 57 rfl ?_
    refine keep [0, 8, 9, 10] rfl ?_
    refine W_block ?_
    have hl2 : l.length ≤ 120 := (by omega)
    refine loop (α := Nat) 1 (fun k => [(0, .sl 0 0 l.length), (8, .sl 0 0 l.length), (9, SV.i l.length), (10, SV.i (k))]) (fun k => [some (.rows 49 2 l.length (smpF l))]) (fun k => (k) ≤ l.length ∧ faultTo l (k) = 0) (fun k => l.length - (k)) (((0) : Nat)) [0] (fun _ => rfl) (show (0) ≤ l.length ∧ faultTo l (0) = 0 from ⟨Nat.zero_le _, rfl⟩) rfl ⟨rfl, rfl, rfl, rfl, trivial⟩ ⟨rfl, trivial⟩ (fun k hx => ?_)
    show W _ _ _ ⟨tOf [(0, .sl 0 0 l.length), (8, .sl 0 0 l.length), (9, SV.i l.length), (10, SV.i k)], hOf [some (.rows 49 2 l.length (smpF l))], 1⟩
    have hx : k ≤ l.length ∧ faultTo l k = 0 := hx
    obtain ⟨hk, hf⟩ := hx
    refine r1 ?_
    refine s1 11 1 1 rfl rfl rfl rfl rfl rfl (by first | trivial | omega | (simp only [List.length_map, List.length_append, List.length_cons, List.length_nil] at *; omega)) ?_
    refine e1 9 rfl ?_
    refine keep [0, 8, 9, 10, 11] rfl ?_
    refine W_seq ?_
    refine q1 rfl (fun hc4 => ?_) (fun hc4 => ?_)
    · skip
      try simp only [decide_eq_true_eq, decide_eq_false_iff_not, Bool.not_eq_true', Bool.not_eq_false', beq_iff_eq, bne_iff_ne, beq_eq_false_iff_ne, Bool.and_eq_true, Bool.or_eq_true, Bool.and_eq_false_iff, Bool.or_eq_false_iff, ge_iff_le, gt_iff_lt, Int.not_lt, Int.not_le, ne_eq, Decidable.not_not, bne_eq_false_iff_eq] at hc4
      refine W_skip ?_
      refine tn ?_
      refine W_seq ?_
      refine W_block ?_
      refine r1 ?_
      refine s1 12 9 1 rfl rfl rfl rfl rfl rfl trivial ?_
      refine s1 13 17 2 rfl rfl rfl rfl rfl rfl (by first | trivial | omega | (simp only [List.length_map, List.length_append, List.length_cons, List.length_nil] at *; omega)) ?_
      refine s1 14 25 3 rfl rfl rfl rfl rfl rfl (by first | trivial | omega | (simp only [List.length_map, List.length_append, List.length_cons, List.length_nil] at *; omega)) ?_
      refine val 14 (smpS (l.getD k default)) rfl (by first | rfl | (simp only [Nat.zero_add, Int.toNat_natCast]; rfl)) ?_
      refine s1 4 33 4 rfl rfl rfl rfl rfl rfl trivial ?_
      refine s1 3 41 5 rfl rfl rfl rfl rfl rfl trivial ?_
      refine s0 49 6 rfl rfl rfl rfl rfl (by first | trivial | omega | (simp only [List.length_map, List.length_append, List.length_cons, List.length_nil] at *; omega)) ?_
      refine e1 57 rfl ?_
      refine keep [0, 3, 4, 8, 9, 10] rfl ?_
      refine W_seq ?_
      refine r1 ?_
      refine s1 15 57 1 rfl rfl rfl rfl rfl rfl trivial ?_
      refine s1 16 65 2 rfl rfl rfl rfl rfl rfl (by first | trivial | omega | (simp only [List.length_map, List.length_append, List.length_cons, List.length_nil] at *; omega)) ?_
      refine c1 (inb_any (l.getD k default).t) [] [] 17 73 3 rfl rfl rfl rfl rfl rfl rfl rfl Tryd.func59 rfl rfl rfl rfl trivial rfl rfl ?_
      refine s1 18 81 4 rfl rfl rfl rfl rfl rfl trivial ?_
      refine s1 19 89 5 rfl rfl rfl rfl rfl rfl trivial ?_
      refine ask 19 rfl (fun hg6_19 => ?_) (fun hg6_19 => ?_)
      · skip
        try simp only [decide_eq_true_eq, decide_eq_false_iff_not, Bool.not_eq_true', Bool.not_eq_false', beq_iff_eq, bne_iff_ne, beq_eq_false_iff_ne, Bool.and_eq_true, Bool.or_eq_true, Bool.and_eq_false_iff, Bool.or_eq_false_iff, ge_iff_le, gt_iff_lt, Int.not_lt, Int.not_le, ne_eq, Decidable.not_not, bne_eq_false_iff_eq] at hg6_19
        refine g0 4 false 19 20 6 rfl rfl rfl rfl rfl rfl ?_
        refine g0 4 false 19 21 7 rfl rfl rfl rfl rfl rfl ?_
        refine g0 4 false 19 22 8 rfl rfl rfl rfl rfl rfl ?_
        refine g0 4 false 19 23 9 rfl rfl rfl rfl rfl rfl ?_
        refine s1 24 129 10 rfl rfl rfl rfl rfl rfl trivial ?_
        refine e1 137 rfl ?_
        refine keep [0, 3, 4, 8, 9, 10, 24] rfl ?_
        refine q1 rfl (fun hc6 => ?_) (fun hc6 => ?_)
        · skip
          try simp only [decide_eq_true_eq, decide_eq_false_iff_not, Bool.not_eq_true', Bool.not_eq_false', beq_iff_eq, bne_iff_ne, beq_eq_false_iff_ne, Bool.and_eq_true, Bool.or_eq_true, Bool.and_eq_false_iff, Bool.or_eq_false_iff, ge_iff_le, gt_iff_lt, Int.not_lt, Int.not_le, ne_eq, Decidable.not_not, bne_eq_false_iff_eq] at hc6
          refine r1 ?_
          refine s1 2 137 1 rfl rfl rfl rfl rfl rfl trivial ?_
          refine e1 145 rfl ?_
          refine keep [2] rfl ?_
          refine W_ret ?_
          refine tr ?_
          refine br ?_
          refine tr ?_
          refine tr ?_
          refine br ?_
          refine tr ?_
          exact out1 2 (SV.i (sfault l)) (π := [0]) (hout := [some (.rows 49 2 l.length (smpF l))]) Tryd.results32 rfl (by unfold sfault; rw [if_neg (by omega)]; have hlf : lfault (lstN l k) (l.getD k default) = 11 := (by unfold lfault; rw [if_neg (by rintro ⟨g1, g2⟩; simp_all)]); rw [faultTo_at (by omega) hf (by rw [hlf]; decide), hlf]; rfl) rfl rfl ⟨rfl, trivial⟩ ⟨rfl, rfl⟩
        · skip
          exact absurd hc6 (by decide)
      · skip
        try simp only [decide_eq_true_eq, decide_eq_false_iff_not, Bool.not_eq_true', Bool.not_eq_false', beq_iff_eq, bne_iff_ne, beq_eq_false_iff_ne, Bool.and_eq_true, Bool.or_eq_true, Bool.and_eq_false_iff, Bool.or_eq_false_iff, ge_iff_le, gt_iff_lt, Int.not_lt, Int.not_le, ne_eq, Decidable.not_not, bne_eq_false_iff_eq] at hg6_19
        refine g1 4 false 19 20 6 rfl rfl rfl rfl rfl ?_
        refine s1 20 97 6 rfl rfl rfl rfl rfl rfl trivial ?_
        refine g1 4 false 19 21 7 rfl rfl rfl rfl rfl ?_
        refine s1 21 105 7 rfl rfl rfl rfl rfl rfl (by first | trivial | omega | (simp only [List.length_map, List.length_append, List.length_cons, List.length_nil] at *; omega)) ?_
        refine g1 4 false 19 22 8 rfl rfl rfl rfl rfl ?_
        refine c1 (inb_any (l.getD k default).v) [] [] 22 113 8 rfl rfl rfl rfl rfl rfl rfl rfl Tryd.func59 rfl rfl rfl rfl trivial rfl rfl ?_
        refine g1 4 false 19 23 9 rfl rfl rfl rfl rfl ?_
        refine s1 23 121 9 rfl rfl rfl rfl rfl rfl trivial ?_
        refine s1 24 129 10 rfl rfl rfl rfl rfl rfl trivial ?_
        refine e1 137 rfl ?_
        refine keep [0, 3, 4, 8, 9, 10, 24] rfl ?_
        refine q1 rfl (fun hc6 => ?_) (fun hc6 => ?_)
        · skip
          try simp only [decide_eq_true_eq, decide_eq_false_iff_not, Bool.not_eq_true', Bool.not_eq_false', beq_iff_eq, bne_iff_ne, beq_eq_false_iff_ne, Bool.and_eq_true, Bool.or_eq_true, Bool.and_eq_false_iff, Bool.or_eq_false_iff, ge_iff_le, gt_iff_lt, Int.not_lt, Int.not_le, ne_eq, Decidable.not_not, bne_eq_false_iff_eq] at hc6
          refine r1 ?_
          refine s1 2 137 1 rfl rfl rfl rfl rfl rfl trivial ?_
          refine e1 145 rfl ?_
          refine keep [2] rfl ?_
          refine W_ret ?_
          refine tr ?_
          refine br ?_
          refine tr ?_
          refine tr ?_
          refine br ?_
          refine tr ?_
          exact out1 2 (SV.i (sfault l)) (π := [0]) (hout := [some (.rows 49 2 l.length (smpF l))]) Tryd.results32 rfl (by unfold sfault; rw [if_neg (by omega)]; have hlf : lfault (lstN l k) (l.getD k default) = 11 := (by unfold lfault; rw [if_neg (by rintro ⟨g1, g2⟩; simp_all)]); rw [faultTo_at (by omega) hf (by rw [hlf]; decide), hlf]; rfl) rfl rfl ⟨rfl, trivial⟩ ⟨rfl, rfl⟩
        · skip
          try simp only [decide_eq_true_eq, decide_eq_false_iff_not, Bool.not_eq_true', Bool.not_eq_false', beq_iff_eq, bne_iff_ne, beq_eq_false_iff_ne, Bool.and_eq_true, Bool.or_eq_true, Bool.and_eq_false_iff, Bool.or_eq_false_iff, ge_iff_le, gt_iff_lt, Int.not_lt, Int.not_le, ne_eq, Decidable.not_not, bne_eq_false_iff_eq] at hc6
          refine W_skip ?_
          refine tn ?_
          refine rd1 rfl ?_
          refine d1 25 137 1 rfl rfl rfl rfl rfl rfl trivial ?_
          refine d1 26 145 2 rfl rfl rfl rfl rfl rfl (by first | trivial | omega | (simp only [List.length_map, List.length_append, List.length_cons, List.length_nil] at *; omega)) ?_
          refine d1 27 153 3 rfl rfl rfl rfl rfl rfl trivial ?_
          refine ask 27 rfl (fun hg8_27 => ?_) (fun hg8_27 => ?_)
          · skip
            try simp only [decide_eq_true_eq, decide_eq_false_iff_not, Bool.not_eq_true', Bool.not_eq_false', beq_iff_eq, bne_iff_ne, beq_eq_false_iff_ne, Bool.and_eq_true, Bool.or_eq_true, Bool.and_eq_false_iff, Bool.or_eq_false_iff, ge_iff_le, gt_iff_lt, Int.not_lt, Int.not_le, ne_eq, Decidable.not_not, bne_eq_false_iff_eq] at hg8_27
            refine g1 2 true 27 28 4 rfl rfl rfl rfl rfl ?_
            refine d1 28 161 4 rfl rfl rfl rfl rfl rfl trivial ?_
            refine g1 2 true 27 29 5 rfl rfl rfl rfl rfl ?_
            refine d1 29 169 5 rfl rfl rfl rfl rfl rfl (by first | trivial | omega | (simp only [List.length_map, List.length_append, List.length_cons, List.length_nil] at *; omega)) ?_
            refine g1 2 true 27 30 6 rfl rfl rfl rfl rfl ?_
            refine d1 30 177 6 rfl rfl rfl rfl rfl rfl trivial ?_
            refine g1 2 true 27 31 7 rfl rfl rfl rfl rfl ?_
            refine d1 31 185 7 rfl rfl rfl rfl rfl rfl trivial ?_
            refine g1 2 true 27 32 8 rfl rfl rfl rfl rfl ?_
            refine dA 32 193 8 rfl rfl rfl rfl rfl rfl rfl rfl rfl (by unfold inRange; omega) ?_
            refine g1 2 true 27 33 9 rfl rfl rfl rfl rfl ?_
            refine d1 33 201 9 rfl rfl rfl rfl rfl rfl (by first | trivial | omega | (simp only [List.length_map, List.length_append, List.length_cons, List.length_nil] at *; omega)) ?_
            refine g1 2 true 27 34 10 rfl rfl rfl rfl rfl ?_
            refine d1 34 209 10 rfl rfl rfl rfl rfl rfl trivial ?_
            refine g1 2 true 27 35 11 rfl rfl rfl rfl rfl ?_
            refine d1 35 217 11 rfl rfl rfl rfl rfl rfl (by omega) ?_
            refine val 35 (SV.i (l.getD (k - 1) default).t) rfl (by rw [show ((k : Int) - 1).toNat = k - 1 by omega]; show SV.i (l.getD (0 + (k - 1)) default).t = _; rw [Nat.zero_add]) ?_
            refine g1 2 true 27 36 12 rfl rfl rfl rfl rfl ?_
            refine d1 36 225 12 rfl rfl rfl rfl rfl rfl (by first | trivial | omega | (simp only [List.length_map, List.length_append, List.length_cons, List.length_nil] at *; omega)) ?_
            refine d1 37 233 13 rfl rfl rfl rfl rfl rfl trivial ?_
            refine de1 241 rfl (by kernel_rfl) ?_
            refine keep [0, 8, 9, 10, 37] rfl ?_
            refine q1 rfl (fun hc8 => ?_) (fun hc8 => ?_)
            · skip
              try simp only [decide_eq_true_eq, decide_eq_false_iff_not, Bool.not_eq_true', Bool.not_eq_false', beq_iff_eq, bne_iff_ne, beq_eq_false_iff_ne, Bool.and_eq_true, Bool.or_eq_true, Bool.and_eq_false_iff, Bool.or_eq_false_iff, ge_iff_le, gt_iff_lt, Int.not_lt, Int.not_le, ne_eq, Decidable.not_not, bne_eq_false_iff_eq] at hc8
              refine r1 ?_
              refine s1 2 241 1 rfl rfl rfl rfl rfl rfl trivial ?_
              refine e1 249 rfl ?_
              refine keep [2] rfl ?_
              refine W_ret ?_
              refine br ?_
              refine tr ?_
              refine tr ?_
              refine br ?_
              refine tr ?_
              exact out1 2 (SV.i (sfault l)) (π := [0]) (hout := [some (.rows 49 2 l.length (smpF l))]) Tryd.results32 rfl (by unfold sfault; rw [if_neg (by omega)]; have hlf : lfault (lstN l k) (l.getD k default) = 9 := (by unfold lfault; rw [if_pos (by constructor <;> simp_all), if_pos (by rw [lstN_n, (lstN_t l (by omega)).1]; omega)]); rw [faultTo_at (by omega) hf (by rw [hlf]; decide), hlf]; rfl) rfl rfl ⟨rfl, trivial⟩ ⟨rfl, rfl⟩
            · skip
              try simp only [decide_eq_true_eq, decide_eq_false_iff_not, Bool.not_eq_true', Bool.not_eq_false', beq_iff_eq, bne_iff_ne, beq_eq_false_iff_ne, Bool.and_eq_true, Bool.or_eq_true, Bool.and_eq_false_iff, Bool.or_eq_false_iff, ge_iff_le, gt_iff_lt, Int.not_lt, Int.not_le, ne_eq, Decidable.not_not, bne_eq_false_iff_eq] at hc8
              refine W_skip ?_
              refine bn ?_
              refine tn ?_
              refine r0 ?_
              refine sA 38 241 1 rfl rfl rfl rfl rfl rfl rfl rfl rfl (by unfold inRange; omega) ?_
              refine s1 10 249 2 rfl rfl rfl rfl rfl rfl trivial ?_
              refine e1 257 rfl ?_
              refine tn ?_
              exact again ((k + 1 : Nat)) [0] (show (k + 1) ≤ l.length ∧ faultTo l (k + 1) = 0 from ⟨by omega, faultTo_step hf (by unfold lfault; rw [if_pos (by constructor <;> simp_all), if_neg (by rw [lstN_n]; rintro ⟨g1, g2⟩; rw [(lstN_t l (by omega)).1] at g2; omega)])⟩) (show l.length - (k + 1) < l.length - k from (by omega)) rfl ⟨rfl, rfl, rfl, rfl, trivial⟩ ⟨rfl, trivial⟩
          · skip
            try simp only [decide_eq_true_eq, decide_eq_false_iff_not, Bool.not_eq_true', Bool.not_eq_false', beq_iff_eq, bne_iff_ne, beq_eq_false_iff_ne, Bool.and_eq_true, Bool.or_eq_true, Bool.and_eq_false_iff, Bool.or_eq_false_iff, ge_iff_le, gt_iff_lt, Int.not_lt, Int.not_le, ne_eq, Decidable.not_not, bne_eq_false_iff_eq] at hg8_27
            refine g0 2 true 27 28 4 rfl rfl rfl rfl rfl rfl ?_
            refine g0 2 true 27 29 5 rfl rfl rfl rfl rfl rfl ?_
            refine g0 2 true 27 30 6 rfl rfl rfl rfl rfl rfl ?_
            refine g0 2 true 27 31 7 rfl rfl rfl rfl rfl rfl ?_
            refine g0 2 true 27 32 8 rfl rfl rfl rfl rfl rfl ?_
            refine g0 2 true 27 33 9 rfl rfl rfl rfl rfl rfl ?_
            refine g0 2 true 27 34 10 rfl rfl rfl rfl rfl rfl ?_
            refine g0 2 true 27 35 11 rfl rfl rfl rfl rfl rfl ?_
            refine g0 2 true 27 36 12 rfl rfl rfl rfl rfl rfl ?_
            refine d1 37 233 13 rfl rfl rfl rfl rfl rfl trivial ?_
            refine de1 241 rfl (by kernel_rfl) ?_
            refine keep [0, 8, 9, 10, 37] rfl ?_
            refine q1 rfl (fun hc8 => ?_) (fun hc8 => ?_)
            · skip
              exact absurd hc8 (by decide)
            · skip
              try simp only [decide_eq_true_eq, decide_eq_false_iff_not, Bool.not_eq_true', Bool.not_eq_false', beq_iff_eq, bne_iff_ne, beq_eq_false_iff_ne, Bool.and_eq_true, Bool.or_eq_true, Bool.and_eq_false_iff, Bool.or_eq_false_iff, ge_iff_le, gt_iff_lt, Int.not_lt, Int.not_le, ne_eq, Decidable.not_not, bne_eq_false_iff_eq] at hc8
              refine W_skip ?_
              refine bn ?_
              refine tn ?_
              refine r0 ?_
              refine sA 38 241 1 rfl rfl rfl rfl rfl rfl rfl rfl rfl (by unfold inRange; omega) ?_
              refine s1 10 249 2 rfl rfl rfl rfl rfl rfl trivial ?_
              refine e1 257 rfl ?_
              refine tn ?_
              exact again ((k + 1 : Nat)) [0] (show (k + 1) ≤ l.length ∧ faultTo l (k + 1) = 0 from ⟨by omega, faultTo_step hf (by unfold lfault; rw [if_pos (by constructor <;> simp_all), if_neg (by rw [lstN_n]; rintro ⟨g1, g2⟩; rw [(lstN_t l (by omega)).1] at g2; omega)])⟩) (show l.length - (k + 1) < l.length - k from (by omega)) rfl ⟨rfl, rfl, rfl, rfl, trivial⟩ ⟨rfl, trivial⟩
    · skip
      try simp only [decide_eq_true_eq, decide_eq_false_iff_not, Bool.not_eq_true', Bool.not_eq_false', beq_iff_eq, bne_iff_ne, beq_eq_false_iff_ne, Bool.and_eq_true, Bool.or_eq_true, Bool.and_eq_false_iff, Bool.or_eq_false_iff, ge_iff_le, gt_iff_lt, Int.not_lt, Int.not_le, ne_eq, Decidable.not_not, bne_eq_false_iff_eq] at hc4
      refine W_exit ?_
      refine tx ?_
      refine tx ?_
      refine bx ?_
      refine tn ?_
      refine r1 ?_
      refine s1 2 9 1 rfl rfl rfl rfl rfl rfl trivial ?_
      refine e1 17 rfl ?_
      refine keep [2] rfl ?_
      refine W_ret ?_
      exact out1 2 (SV.i (sfault l)) (π := [0]) (hout := [some (.rows 49 2 l.length (smpF l))]) Tryd.results32 rfl (by unfold sfault; rw [if_neg (by omega), show l.length = k by omega, hf]; rfl) rfl rfl ⟨rfl, trivial⟩ ⟨rfl, rfl⟩

end Go.Proofs.YtiedndnegmbkiaaDoor.Nice
