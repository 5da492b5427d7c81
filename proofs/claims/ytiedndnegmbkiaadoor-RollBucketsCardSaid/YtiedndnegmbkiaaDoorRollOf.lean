/- What samples come to: the program and the document. -/
import Derived.Test.YtiedndnegmbkiaaDoorChunkRef
namespace Go.Proofs.YtiedndnegmbkiaaDoor.Nice
open Go
set_option linter.unusedVariables false
set_option linter.unusedSimpArgs false
set_option maxRecDepth 100000
set_option maxHeartbeats 4000000

structure Roll where
  c : Int
  lo : Int
  hi : Int
  s : Int
  deriving DecidableEq
def rollS (r : Roll) : SV := .agg [SV.i r.c, SV.i r.lo, SV.i r.hi, SV.i r.s]
def joined (a b : Roll) : Roll := if a.c = 0 then b else if b.c = 0 then a else ⟨a.c + b.c, if b.lo < a.lo then b.lo else a.lo, if a.hi < b.hi then b.hi else a.hi, a.s + b.s⟩
def withR (a : Roll) (v : Int) : Roll := joined a ⟨1, v, v, v⟩
def stepR (r : Roll) (n : Nat) (v : Int) : Roll := ⟨r.c + 1, if n = 0 ∨ v < r.lo then v else r.lo, if n = 0 ∨ r.hi < v then v else r.hi, r.s + v⟩
def foldTo (l : List Int) : Nat → Roll
  | 0 => ⟨0, 0, 0, 0⟩
  | n + 1 => stepR (foldTo l n) n (l.getD n 0)
def rollBlk (r : Roll) : Blk := .cells 34 4 [SV.i r.c, SV.i r.lo, SV.i r.hi, SV.i r.s]
theorem blk_eq {c lo hi s : Int} {r : Roll} (h1 : c = r.c) (h2 : lo = r.lo) (h3 : hi = r.hi) (h4 : s = r.s) : Blk.cells 34 4 [SV.i c, SV.i lo, SV.i hi, SV.i s] = rollBlk r := by
  rw [h1, h2, h3, h4]; rfl
theorem fold_c (l : List Int) : ∀ n, (foldTo l n).c = n
  | 0 => rfl
  | n + 1 => by show (foldTo l n).c + 1 = _; rw [fold_c l n]; omega
theorem fold_with (l : List Int) (n : Nat) : foldTo l (n + 1) = withR (foldTo l n) (l.getD n 0) := by
  by_cases h : n = 0
  · subst h
    simp [foldTo, stepR, withR, joined]
  · have hj : withR (foldTo l n) (l.getD n 0) = ⟨(foldTo l n).c + 1, if l.getD n 0 < (foldTo l n).lo then l.getD n 0 else (foldTo l n).lo, if (foldTo l n).hi < l.getD n 0 then l.getD n 0 else (foldTo l n).hi, (foldTo l n).s + l.getD n 0⟩ := by
      unfold withR joined
      rw [if_neg (by rw [fold_c]; omega), if_neg (by show ¬ (1 : Int) = 0; decide)]
    rw [hj]
    show stepR _ _ _ = _
    unfold stepR
    simp only [h, false_or]
def inV (x : Int) : Prop := -36028797018963968 ≤ x ∧ x < 36028797018963968
theorem fold_s {l : List Int} (h : ∀ j, j < l.length → inV (l.getD j 0)) : ∀ n, n ≤ l.length → -(n * 36028797018963968) ≤ (foldTo l n).s ∧ (foldTo l n).s ≤ n * 36028797018963968
  | 0, _ => by simp [foldTo]
  | n + 1, hn => by
    have := fold_s h n (by omega)
    have := h n (by omega)
    unfold inV at this
    show _ ≤ (foldTo l n).s + l.getD n 0 ∧ (foldTo l n).s + l.getD n 0 ≤ _
    omega
def vals (l : List Smp) : List Int := l.map (·.v)
theorem vals_len (l : List Smp) : (vals l).length = l.length := by simp [vals]
theorem vals_get {l : List Smp} {k : Nat} (h : k < l.length) : (vals l).getD k 0 = (l.getD k default).v := by simp [vals, List.getD, h]
theorem sf_parts {l : List Smp} (hz : sfault l = 0) : l.length ≤ 120 ∧ faultTo l l.length = 0 := by
  unfold sfault at hz
  by_cases h : 120 < l.length
  · rw [if_pos h] at hz; cases hz
  · rw [if_neg h] at hz; exact ⟨by omega, hz⟩
theorem vals_in {l : List Smp} (hz : sfault l = 0) : ∀ j, j < (vals l).length → inV ((vals l).getD j 0) := by
  intro j hj
  rw [vals_len] at hj
  rw [vals_get hj]
  exact (smp_at (sf_parts hz).2 hj).2.1
def ofR (l : List Smp) : Roll := if sfault l = 0 then foldTo (vals l) l.length else ⟨0, 0, 0, 0⟩
def ofX (l : List Smp) : SV := .tup [rollS (ofR l), SV.i (sfault l)]

theorem joined_any (a b : Roll) (hc : inRange (a.c + b.c)) (hs : inRange (a.s + b.s)) : Spec Tryd.prog GC 64 [rollS a, rollS b] [] (fun r ho => r = rollS (joined a b) ∧ ho = []) := by
  refine start 36 0 Tryd.func64 rfl rfl rfl rfl ?_
  refine r1 ?_
  refine s1 2 0 1 rfl rfl rfl rfl rfl rfl trivial ?_
  refine s1 3 8 2 rfl rfl rfl rfl rfl rfl trivial ?_
  refine s1 4 16 3 rfl rfl rfl rfl rfl rfl trivial ?_
  refine e1 24 rfl ?_
  refine keep [2, 3, 4] rfl ?_
  refine W_seq ?_
  refine W_block ?_
  refine r1 ?_
  refine s1 6 24 1 rfl rfl rfl rfl rfl rfl trivial ?_
  refine s1 7 32 2 rfl rfl rfl rfl rfl rfl (by first | trivial | omega | (simp only [List.length_map, List.length_append, List.length_cons, List.length_nil] at *; omega)) ?_
  refine s1 8 40 3 rfl rfl rfl rfl rfl rfl (by first | trivial | omega | (simp only [List.length_map, List.length_append, List.length_cons, List.length_nil] at *; omega)) ?_
  refine s1 5 48 4 rfl rfl rfl rfl rfl rfl trivial ?_
  refine e1 56 rfl ?_
  refine keep [2, 3, 4, 5] rfl ?_
  refine q1 rfl (fun hc1 => ?_) (fun hc1 => ?_)
  · skip
    try simp only [decide_eq_true_eq, decide_eq_false_iff_not, Bool.not_eq_true', Bool.not_eq_false', beq_iff_eq, bne_iff_ne, beq_eq_false_iff_ne, Bool.and_eq_true, Bool.or_eq_true, Bool.and_eq_false_iff, Bool.or_eq_false_iff, ge_iff_le, gt_iff_lt, Int.not_lt, Int.not_le, ne_eq, Decidable.not_not, bne_eq_false_iff_eq] at hc1
    refine r1 ?_
    refine s1 9 56 1 rfl rfl rfl rfl rfl rfl (by first | trivial | omega | (simp only [List.length_map, List.length_append, List.length_cons, List.length_nil] at *; omega)) ?_
    refine s0 64 2 rfl rfl rfl rfl rfl (by first | trivial | omega | (simp only [List.length_map, List.length_append, List.length_cons, List.length_nil] at *; omega)) ?_
    refine e1 72 rfl ?_
    refine keep [4] rfl ?_
    refine W_ret ?_
    refine br ?_
    refine tr ?_
    exact outN (rollS (joined a b)) (π := []) (hout := []) Tryd.results64 rfl (by trivial) (by unfold joined; rw [if_pos hc1]; rfl) rfl rfl trivial ⟨rfl, rfl⟩
  · skip
    try simp only [decide_eq_true_eq, decide_eq_false_iff_not, Bool.not_eq_true', Bool.not_eq_false', beq_iff_eq, bne_iff_ne, beq_eq_false_iff_ne, Bool.and_eq_true, Bool.or_eq_true, Bool.and_eq_false_iff, Bool.or_eq_false_iff, ge_iff_le, gt_iff_lt, Int.not_lt, Int.not_le, ne_eq, Decidable.not_not, bne_eq_false_iff_eq] at hc1
    refine r1 ?_
    refine s1 11 56 1 rfl rfl rfl rfl rfl rfl trivial ?_
    refine s1 12 64 2 rfl rfl rfl rfl rfl rfl (by first | trivial | omega | (simp only [List.length_map, List.length_append, List.length_cons, List.length_nil] at *; omega)) ?_
    refine s1 13 72 3 rfl rfl rfl rfl rfl rfl (by first | trivial | omega | (simp only [List.length_map, List.length_append, List.length_cons, List.length_nil] at *; omega)) ?_
    refine s1 10 80 4 rfl rfl rfl rfl rfl rfl trivial ?_
    refine e1 88 rfl ?_
    refine keep [2, 3, 4, 10] rfl ?_
    refine q1 rfl (fun hc3 => ?_) (fun hc3 => ?_)
    · skip
      try simp only [decide_eq_true_eq, decide_eq_false_iff_not, Bool.not_eq_true', Bool.not_eq_false', beq_iff_eq, bne_iff_ne, beq_eq_false_iff_ne, Bool.and_eq_true, Bool.or_eq_true, Bool.and_eq_false_iff, Bool.or_eq_false_iff, ge_iff_le, gt_iff_lt, Int.not_lt, Int.not_le, ne_eq, Decidable.not_not, bne_eq_false_iff_eq] at hc3
      refine r1 ?_
      refine s1 14 88 1 rfl rfl rfl rfl rfl rfl (by first | trivial | omega | (simp only [List.length_map, List.length_append, List.length_cons, List.length_nil] at *; omega)) ?_
      refine s0 96 2 rfl rfl rfl rfl rfl (by first | trivial | omega | (simp only [List.length_map, List.length_append, List.length_cons, List.length_nil] at *; omega)) ?_
      refine e1 104 rfl ?_
      refine keep [4] rfl ?_
      refine W_ret ?_
      refine br ?_
      refine tr ?_
      exact outN (rollS (joined a b)) (π := []) (hout := []) Tryd.results64 rfl (by trivial) (by unfold joined; rw [if_neg hc1, if_pos hc3]; rfl) rfl rfl trivial ⟨rfl, rfl⟩
    · skip
      try simp only [decide_eq_true_eq, decide_eq_false_iff_not, Bool.not_eq_true', Bool.not_eq_false', beq_iff_eq, bne_iff_ne, beq_eq_false_iff_ne, Bool.and_eq_true, Bool.or_eq_true, Bool.and_eq_false_iff, Bool.or_eq_false_iff, ge_iff_le, gt_iff_lt, Int.not_lt, Int.not_le, ne_eq, Decidable.not_not, bne_eq_false_iff_eq] at hc3
      refine W_skip ?_
      refine bn ?_
      refine tn ?_
      refine r1 ?_
      refine s1 15 88 1 rfl rfl rfl rfl rfl rfl trivial ?_
      refine s1 16 96 2 rfl rfl rfl rfl rfl rfl (by first | trivial | omega | (simp only [List.length_map, List.length_append, List.length_cons, List.length_nil] at *; omega)) ?_
      refine s1 17 104 3 rfl rfl rfl rfl rfl rfl trivial ?_
      refine s1 18 112 4 rfl rfl rfl rfl rfl rfl (by first | trivial | omega | (simp only [List.length_map, List.length_append, List.length_cons, List.length_nil] at *; omega)) ?_
      refine sA 19 120 5 rfl rfl rfl rfl rfl rfl rfl rfl rfl hc ?_
      refine s1 20 128 6 rfl rfl rfl rfl rfl rfl trivial ?_
      refine s1 21 136 7 rfl rfl rfl rfl rfl rfl (by first | trivial | omega | (simp only [List.length_map, List.length_append, List.length_cons, List.length_nil] at *; omega)) ?_
      refine s1 22 144 8 rfl rfl rfl rfl rfl rfl trivial ?_
      refine s1 23 152 9 rfl rfl rfl rfl rfl rfl (by first | trivial | omega | (simp only [List.length_map, List.length_append, List.length_cons, List.length_nil] at *; omega)) ?_
      refine s1 24 160 10 rfl rfl rfl rfl rfl rfl trivial ?_
      refine s1 25 168 11 rfl rfl rfl rfl rfl rfl trivial ?_
      refine s1 26 176 12 rfl rfl rfl rfl rfl rfl (by first | trivial | omega | (simp only [List.length_map, List.length_append, List.length_cons, List.length_nil] at *; omega)) ?_
      refine s1 27 184 13 rfl rfl rfl rfl rfl rfl trivial ?_
      refine s1 28 192 14 rfl rfl rfl rfl rfl rfl (by first | trivial | omega | (simp only [List.length_map, List.length_append, List.length_cons, List.length_nil] at *; omega)) ?_
      refine s1 29 200 15 rfl rfl rfl rfl rfl rfl trivial ?_
      refine s1 30 208 16 rfl rfl rfl rfl rfl rfl trivial ?_
      refine s1 31 216 17 rfl rfl rfl rfl rfl rfl (by first | trivial | omega | (simp only [List.length_map, List.length_append, List.length_cons, List.length_nil] at *; omega)) ?_
      refine s1 32 224 18 rfl rfl rfl rfl rfl rfl trivial ?_
      refine s1 33 232 19 rfl rfl rfl rfl rfl rfl (by first | trivial | omega | (simp only [List.length_map, List.length_append, List.length_cons, List.length_nil] at *; omega)) ?_
      refine sA 34 240 20 rfl rfl rfl rfl rfl rfl rfl rfl rfl hs ?_
      refine s1 35 248 21 rfl rfl rfl rfl rfl rfl trivial ?_
      refine s0 256 22 rfl rfl rfl rfl rfl (by first | trivial | omega | (simp only [List.length_map, List.length_append, List.length_cons, List.length_nil] at *; omega)) ?_
      refine e1 264 rfl ?_
      refine keep [4] rfl ?_
      refine W_ret ?_
      exact outN (rollS (joined a b)) (π := []) (hout := []) Tryd.results64 rfl (by trivial) (by unfold joined; rw [if_neg hc1, if_neg hc3]; rfl) rfl rfl trivial ⟨rfl, rfl⟩

theorem with_any (a : Roll) (v : Int) (hc : inRange (a.c + 1)) (hs : inRange (a.s + v)) : Spec Tryd.prog GC 48 [rollS a, SV.i v] [] (fun r ho => r = rollS (withR a v) ∧ ho = []) := by
  refine start 11 0 Tryd.func48 rfl rfl rfl rfl ?_
  refine r1 ?_
  refine s1 2 0 1 rfl rfl rfl rfl rfl rfl trivial ?_
  refine s1 4 8 2 rfl rfl rfl rfl rfl rfl trivial ?_
  refine e1 16 rfl ?_
  refine keep [1, 2, 4] rfl ?_
  refine r1 ?_
  refine s1 5 16 1 rfl rfl rfl rfl rfl rfl (by first | trivial | omega | (simp only [List.length_map, List.length_append, List.length_cons, List.length_nil] at *; omega)) ?_
  refine s1 6 24 2 rfl rfl rfl rfl rfl rfl trivial ?_
  refine s1 7 32 3 rfl rfl rfl rfl rfl rfl trivial ?_
  refine s1 8 40 4 rfl rfl rfl rfl rfl rfl trivial ?_
  refine s1 9 48 5 rfl rfl rfl rfl rfl rfl trivial ?_
  refine c1 (joined_any a ⟨1, v, v, v⟩ hc hs) [] [] 10 56 6 rfl rfl rfl rfl rfl rfl rfl rfl Tryd.func64 rfl rfl rfl rfl trivial rfl rfl ?_
  refine s0 64 7 rfl rfl rfl rfl rfl (by first | trivial | omega | (simp only [List.length_map, List.length_append, List.length_cons, List.length_nil] at *; omega)) ?_
  refine e1 72 rfl ?_
  refine keep [4] rfl ?_
  refine W_ret ?_
  exact outN (rollS (withR a v)) (π := []) (hout := []) Tryd.results48 rfl (by trivial) rfl rfl rfl trivial ⟨rfl, rfl⟩

theorem of_any (l : List Smp) (hl : l.length ≤ 120) (hv : ∀ j, j < (vals l).length → inV ((vals l).getD j 0)) : Spec Tryd.prog GC 45 [smpV l] [] (fun r ho => r = rollS (foldTo (vals l) l.length) ∧ ho = []) := by
  refine start 17 0 Tryd.func45 rfl rfl rfl rfl ?_
  refine r1 ?_
  refine s1 2 0 1 rfl rfl rfl rfl rfl rfl trivial ?_
  refine e1 8 rfl ?_
  refine keep [0, 2] rfl ?_
  refine W_seq ?_
  refine r1 ?_
  refine s1 5 8 1 rfl rfl rfl rfl rfl rfl trivial ?_
  refine s1 6 16 2 rfl rfl rfl rfl rfl rfl (by first | trivial | omega | (simp only [List.length_map, List.length_append, List.length_cons, List.length_nil] at *; omega)) ?_
  refine s1 7 24 3 rfl rfl rfl rfl rfl rfl trivial ?_
  refine e1 32 rfl ?_
  refine keep [2, 5, 6, 7] rfl ?_
  refine W_block ?_
  refine loop (α := Nat) 1 (fun n => [(2, .ptr 0 0 0), (5, smpV l), (6, SV.i l.length), (7, SV.i (n))]) (fun n => [some (rollBlk (foldTo (vals l) (n)))]) (fun n => (n) ≤ l.length) (fun n => l.length - (n)) (((0) : Nat)) [0] (fun _ => rfl) (show (0) ≤ l.length from (Nat.zero_le _)) rfl ⟨rfl, rfl, rfl, rfl, trivial⟩ ⟨rfl, trivial⟩ (fun n hx => ?_)
  show W _ _ _ ⟨tOf [(2, .ptr 0 0 0), (5, smpV l), (6, SV.i l.length), (7, SV.i n)], hOf [some (rollBlk (foldTo (vals l) n))], 1⟩
  have hx : n ≤ l.length := hx
  have hs := fold_s hv n (by rw [vals_len]; exact hx)
  have hcc := fold_c (vals l) n
  refine r1 ?_
  refine s1 8 1 1 rfl rfl rfl rfl rfl rfl (by first | trivial | omega | (simp only [List.length_map, List.length_append, List.length_cons, List.length_nil] at *; omega)) ?_
  refine e1 9 rfl ?_
  refine keep [2, 5, 6, 7, 8] rfl ?_
  refine W_seq ?_
  refine q1 rfl (fun hc2 => ?_) (fun hc2 => ?_)
  · skip
    try simp only [decide_eq_true_eq, decide_eq_false_iff_not, Bool.not_eq_true', Bool.not_eq_false', beq_iff_eq, bne_iff_ne, beq_eq_false_iff_ne, Bool.and_eq_true, Bool.or_eq_true, Bool.and_eq_false_iff, Bool.or_eq_false_iff, ge_iff_le, gt_iff_lt, Int.not_lt, Int.not_le, ne_eq, Decidable.not_not, bne_eq_false_iff_eq] at hc2
    have hvn := hv n (by rw [vals_len]; omega)
    rw [vals_get (by omega)] at hvn
    unfold inV at hvn
    refine W_skip ?_
    refine tn ?_
    refine W_seq ?_
    refine W_block ?_
    refine r1 ?_
    refine s1 9 9 1 rfl rfl rfl rfl rfl rfl (by first | trivial | omega | (simp only [List.length_map, List.length_append, List.length_cons, List.length_nil] at *; omega)) ?_
    refine s1 10 17 2 rfl rfl rfl rfl rfl rfl (by first | trivial | omega | (simp only [List.length_map, List.length_append, List.length_cons, List.length_nil] at *; omega)) ?_
    refine val 10 (smpS (l.getD n default)) rfl (by first | rfl | (simp only [Nat.zero_add, Int.toNat_natCast]; rfl)) ?_
    refine s1 4 25 3 rfl rfl rfl rfl rfl rfl trivial ?_
    refine s0 33 4 rfl rfl rfl rfl rfl (by first | trivial | omega | (simp only [List.length_map, List.length_append, List.length_cons, List.length_nil] at *; omega)) ?_
    refine e1 41 rfl ?_
    refine keep [2, 4, 5, 6, 7] rfl ?_
    refine r0 ?_
    refine s1 11 41 1 rfl rfl rfl rfl rfl rfl (by first | trivial | omega | (simp only [List.length_map, List.length_append, List.length_cons, List.length_nil] at *; omega)) ?_
    refine s1 12 49 2 rfl rfl rfl rfl rfl rfl trivial ?_
    refine s1 13 57 3 rfl rfl rfl rfl rfl rfl (by first | trivial | omega | (simp only [List.length_map, List.length_append, List.length_cons, List.length_nil] at *; omega)) ?_
    refine c1 (with_any (foldTo (vals l) n) (l.getD n default).v ⟨by omega, by omega⟩ ⟨by omega, by omega⟩) [] [] 14 65 4 rfl rfl rfl rfl rfl rfl rfl rfl Tryd.func48 rfl rfl rfl rfl trivial rfl rfl ?_
    refine s0 73 5 rfl rfl rfl rfl rfl (by first | trivial | omega | (simp only [List.length_map, List.length_append, List.length_cons, List.length_nil] at *; omega)) ?_
    refine e1 81 rfl ?_
    refine bn ?_
    refine tn ?_
    refine chval 0 (rollBlk (foldTo (vals l) (n + 1))) rfl (by rw [fold_with, vals_get (by omega)]; rfl) ?_
    refine r0 ?_
    refine sA 15 81 1 rfl rfl rfl rfl rfl rfl rfl rfl rfl (by unfold inRange; omega) ?_
    refine s1 7 89 2 rfl rfl rfl rfl rfl rfl trivial ?_
    refine e1 97 rfl ?_
    refine tn ?_
    exact again ((n + 1 : Nat)) [0] (show (n + 1) ≤ l.length from (by omega)) (show l.length - (n + 1) < l.length - n from (by omega)) rfl ⟨rfl, rfl, rfl, rfl, trivial⟩ ⟨rfl, trivial⟩
  · skip
    try simp only [decide_eq_true_eq, decide_eq_false_iff_not, Bool.not_eq_true', Bool.not_eq_false', beq_iff_eq, bne_iff_ne, beq_eq_false_iff_ne, Bool.and_eq_true, Bool.or_eq_true, Bool.and_eq_false_iff, Bool.or_eq_false_iff, ge_iff_le, gt_iff_lt, Int.not_lt, Int.not_le, ne_eq, Decidable.not_not, bne_eq_false_iff_eq] at hc2
    refine W_exit ?_
    refine tx ?_
    refine tx ?_
    refine bx ?_
    refine tn ?_
    obtain rfl : n = l.length := (by omega)
    refine r1 ?_
    refine s1 16 9 1 rfl rfl rfl rfl rfl rfl (by first | trivial | omega | (simp only [List.length_map, List.length_append, List.length_cons, List.length_nil] at *; omega)) ?_
    refine s0 17 2 rfl rfl rfl rfl rfl (by first | trivial | omega | (simp only [List.length_map, List.length_append, List.length_cons, List.length_nil] at *; omega)) ?_
    refine e1 25 rfl ?_
    refine keep [2] rfl ?_
    refine W_ret ?_
    exact outN (rollS (foldTo (vals l) l.length)) (π := []) (hout := []) Tryd.results45 rfl (by trivial) rfl rfl rfl trivial ⟨rfl, rfl⟩

theorem rollOf_ok (l : List Smp) (hin : SmpIn l) (hz : sfault l = 0) : Spec Tryd.prog GC 16 [smpV l] [] (fun r ho => r = SV.tup [rollS (ofR l), SV.i (sfault l)] ∧ ho = []) := by
  have hp := sf_parts hz
  have hv := vals_in hz
  refine start 17 0 Tryd.func16 rfl rfl rfl rfl ?_
  refine r1 ?_
  refine s1 2 0 1 rfl rfl rfl rfl rfl rfl trivial ?_
  refine s1 3 8 2 rfl rfl rfl rfl rfl rfl trivial ?_
  refine e1 16 rfl ?_
  refine keep [0, 2] rfl ?_
  refine W_seq ?_
  refine r1 ?_
  refine s1 7 16 1 rfl rfl rfl rfl rfl rfl trivial ?_
  refine c1 (encode_ok l hin hz) [] [24] 8 24 2 rfl rfl rfl rfl rfl rfl rfl rfl Tryd.func10 rfl rfl rfl rfl trivial rfl rfl ?_
  refine s1 6 32 3 rfl rfl rfl rfl rfl rfl trivial ?_
  refine s1 9 40 4 rfl rfl rfl rfl rfl rfl trivial ?_
  refine s1 10 48 5 rfl rfl rfl rfl rfl rfl trivial ?_
  refine s1 4 56 6 rfl rfl rfl rfl rfl rfl trivial ?_
  refine s1 5 64 7 rfl rfl rfl rfl rfl rfl trivial ?_
  refine e1 72 rfl ?_
  refine keep [0, 2, 5] rfl ?_
  refine r1 ?_
  refine s1 11 72 1 rfl rfl rfl rfl rfl rfl trivial ?_
  refine s1 12 80 2 rfl rfl rfl rfl rfl rfl (by first | trivial | omega | (simp only [List.length_map, List.length_append, List.length_cons, List.length_nil] at *; omega)) ?_
  refine e1 88 rfl ?_
  refine keep [0, 2, 5, 12] rfl ?_
  refine q1 rfl (fun hc2 => ?_) (fun hc2 => ?_)
  · skip
    exact absurd hc2 (by decide)
  · skip
    try simp only [decide_eq_true_eq, decide_eq_false_iff_not, Bool.not_eq_true', Bool.not_eq_false', beq_iff_eq, bne_iff_ne, beq_eq_false_iff_ne, Bool.and_eq_true, Bool.or_eq_true, Bool.and_eq_false_iff, Bool.or_eq_false_iff, ge_iff_le, gt_iff_lt, Int.not_lt, Int.not_le, ne_eq, Decidable.not_not, bne_eq_false_iff_eq] at hc2
    refine W_skip ?_
    refine tn ?_
    refine r1 ?_
    refine s1 15 88 1 rfl rfl rfl rfl rfl rfl trivial ?_
    refine c1 (of_any l hp.1 hv) [] [] 16 96 2 rfl rfl rfl rfl rfl rfl rfl rfl Tryd.func45 rfl rfl rfl rfl trivial rfl rfl ?_
    refine s0 104 3 rfl rfl rfl rfl rfl (by first | trivial | omega | (simp only [List.length_map, List.length_append, List.length_cons, List.length_nil] at *; omega)) ?_
    refine s1 3 112 4 rfl rfl rfl rfl rfl rfl trivial ?_
    refine e1 120 rfl ?_
    refine keep [2, 3] rfl ?_
    refine W_ret ?_
    exact outN (SV.tup [rollS (ofR l), SV.i (sfault l)]) (π := []) (hout := []) Tryd.results16 rfl (by trivial) (by unfold ofR; rw [if_pos hz, hz]; rfl) rfl rfl trivial ⟨rfl, rfl⟩

theorem rollOf_bad (l : List Smp) (hin : SmpIn l) (hz : sfault l ≠ 0) : Spec Tryd.prog GC 16 [smpV l] [] (fun r ho => r = SV.tup [rollS (ofR l), SV.i (sfault l)] ∧ ho = []) := by
  refine start 17 0 Tryd.func16 rfl rfl rfl rfl ?_
  refine r1 ?_
  refine s1 2 0 1 rfl rfl rfl rfl rfl rfl trivial ?_
  refine s1 3 8 2 rfl rfl rfl rfl rfl rfl trivial ?_
  refine e1 16 rfl ?_
  refine keep [0, 2] rfl ?_
  refine W_seq ?_
  refine r1 ?_
  refine s1 7 16 1 rfl rfl rfl rfl rfl rfl trivial ?_
  refine c1 (encode_bad l hin hz) [] [] 8 24 2 rfl rfl rfl rfl rfl rfl rfl rfl Tryd.func10 rfl rfl rfl rfl trivial rfl rfl ?_
  refine s1 6 32 3 rfl rfl rfl rfl rfl rfl trivial ?_
  refine s1 9 40 4 rfl rfl rfl rfl rfl rfl trivial ?_
  refine s1 10 48 5 rfl rfl rfl rfl rfl rfl trivial ?_
  refine s1 4 56 6 rfl rfl rfl rfl rfl rfl trivial ?_
  refine s1 5 64 7 rfl rfl rfl rfl rfl rfl trivial ?_
  refine e1 72 rfl ?_
  refine keep [0, 2, 5] rfl ?_
  refine r1 ?_
  refine s1 11 72 1 rfl rfl rfl rfl rfl rfl trivial ?_
  refine s1 12 80 2 rfl rfl rfl rfl rfl rfl (by first | trivial | omega | (simp only [List.length_map, List.length_append, List.length_cons, List.length_nil] at *; omega)) ?_
  refine e1 88 rfl ?_
  refine keep [0, 2, 5, 12] rfl ?_
  refine q1 rfl (fun hc2 => ?_) (fun hc2 => ?_)
  · skip
    try simp only [decide_eq_true_eq, decide_eq_false_iff_not, Bool.not_eq_true', Bool.not_eq_false', beq_iff_eq, bne_iff_ne, beq_eq_false_iff_ne, Bool.and_eq_true, Bool.or_eq_true, Bool.and_eq_false_iff, Bool.or_eq_false_iff, ge_iff_le, gt_iff_lt, Int.not_lt, Int.not_le, ne_eq, Decidable.not_not, bne_eq_false_iff_eq] at hc2
    refine r1 ?_
    refine s1 13 88 1 rfl rfl rfl rfl rfl rfl trivial ?_
    refine s1 14 96 2 rfl rfl rfl rfl rfl rfl trivial ?_
    refine s0 104 3 rfl rfl rfl rfl rfl (by first | trivial | omega | (simp only [List.length_map, List.length_append, List.length_cons, List.length_nil] at *; omega)) ?_
    refine s1 3 112 4 rfl rfl rfl rfl rfl rfl trivial ?_
    refine e1 120 rfl ?_
    refine keep [2, 3] rfl ?_
    refine W_ret ?_
    refine tr ?_
    exact outN (SV.tup [rollS (ofR l), SV.i (sfault l)]) (π := []) (hout := []) Tryd.results16 rfl (by trivial) (by unfold ofR; rw [if_neg hz]; rfl) rfl rfl trivial ⟨rfl, rfl⟩
  · skip
    exact absurd hc2 (by simpa using hz)

theorem rollOf_any (l : List Smp) (hin : SmpIn l) : Spec Tryd.prog GC 16 [smpV l] [] (fun r ho => r = SV.tup [rollS (ofR l), SV.i (sfault l)] ∧ ho = []) := by
  by_cases hz : sfault l = 0
  · exact rollOf_ok l hin hz
  · exact rollOf_bad l hin hz

theorem refOf_any (l : List Int) (hl : l.length ≤ 1000000) (hs : ∀ n, n ≤ l.length → inRange (foldTo l n).s) : Spec Tryd.prog GC 46 [intV l] [] (fun r ho => r = rollS (foldTo l l.length) ∧ ho = []) := by
  refine start 44 0 Tryd.func46 rfl rfl rfl rfl ?_
  refine r1 ?_
  refine s1 2 0 1 rfl rfl rfl rfl rfl rfl trivial ?_
  refine e1 8 rfl ?_
  refine keep [0, 2] rfl ?_
  refine r1 ?_
  refine s1 3 8 1 rfl rfl rfl rfl rfl rfl trivial ?_
  refine e1 16 rfl ?_
  refine keep [0, 2, 3] rfl ?_
  refine W_seq ?_
  refine r1 ?_
  refine s1 6 16 1 rfl rfl rfl rfl rfl rfl trivial ?_
  refine s1 7 24 2 rfl rfl rfl rfl rfl rfl (by first | trivial | omega | (simp only [List.length_map, List.length_append, List.length_cons, List.length_nil] at *; omega)) ?_
  refine s1 8 32 3 rfl rfl rfl rfl rfl rfl trivial ?_
  refine e1 40 rfl ?_
  refine keep [2, 3, 6, 7, 8] rfl ?_
  refine W_block ?_
  refine loop (α := Nat) 2 (fun n => [(2, .ptr 0 0 0), (3, .ptr 1 0 0), (6, intV l), (7, SV.i l.length), (8, SV.i n)]) (fun n => [some (rollBlk ⟨0, 0, 0, 0⟩), some (rollBlk (foldTo l n))]) (fun n => n ≤ l.length) (fun n => l.length - n) (0) [0, 8] (fun _ => rfl) (Nat.zero_le _) rfl ⟨rfl, rfl, rfl, rfl, rfl, trivial⟩ ⟨rfl, rfl, trivial⟩ (fun n hx => ?_)
  refine r1 ?_
  refine s1 9 2 1 rfl rfl rfl rfl rfl rfl (by first | trivial | omega | (simp only [List.length_map, List.length_append, List.length_cons, List.length_nil] at *; omega)) ?_
  refine e1 10 rfl ?_
  refine keep [2, 3, 6, 7, 8, 9] rfl ?_
  refine W_seq ?_
  refine q1 rfl (fun hc3 => ?_) (fun hc3 => ?_)
  · skip
    try simp only [decide_eq_true_eq, decide_eq_false_iff_not, Bool.not_eq_true', Bool.not_eq_false', beq_iff_eq, bne_iff_ne, beq_eq_false_iff_ne, Bool.and_eq_true, Bool.or_eq_true, Bool.and_eq_false_iff, Bool.or_eq_false_iff, ge_iff_le, gt_iff_lt, Int.not_lt, Int.not_le, ne_eq, Decidable.not_not, bne_eq_false_iff_eq] at hc3
    refine W_skip ?_
    refine tn ?_
    refine W_seq ?_
    refine W_block ?_
    refine r1 ?_
    refine s1 10 10 1 rfl rfl rfl rfl rfl rfl trivial ?_
    refine s1 11 18 2 rfl rfl rfl rfl rfl rfl (by first | trivial | omega | (simp only [List.length_map, List.length_append, List.length_cons, List.length_nil] at *; omega)) ?_
    refine s1 12 26 3 rfl rfl rfl rfl rfl rfl (by first | trivial | omega | (simp only [List.length_map, List.length_append, List.length_cons, List.length_nil] at *; omega)) ?_
    refine s1 4 34 4 rfl rfl rfl rfl rfl rfl trivial ?_
    refine s1 5 42 5 rfl rfl rfl rfl rfl rfl trivial ?_
    refine e1 50 rfl ?_
    refine keep [2, 3, 4, 5, 6, 7, 8] rfl ?_
    refine W_seq ?_
    refine r1 ?_
    refine s1 13 50 1 rfl rfl rfl rfl rfl rfl trivial ?_
    refine s1 14 58 2 rfl rfl rfl rfl rfl rfl (by first | trivial | omega | (simp only [List.length_map, List.length_append, List.length_cons, List.length_nil] at *; omega)) ?_
    refine s1 15 66 3 rfl rfl rfl rfl rfl rfl trivial ?_
    refine ask 15 rfl (fun hg5_15 => ?_) (fun hg5_15 => ?_)
    · skip
      try simp only [decide_eq_true_eq, decide_eq_false_iff_not, Bool.not_eq_true', Bool.not_eq_false', beq_iff_eq, bne_iff_ne, beq_eq_false_iff_ne, Bool.and_eq_true, Bool.or_eq_true, Bool.and_eq_false_iff, Bool.or_eq_false_iff, ge_iff_le, gt_iff_lt, Int.not_lt, Int.not_le, ne_eq, Decidable.not_not, bne_eq_false_iff_eq] at hg5_15
      refine g0 2 false 15 16 4 rfl rfl rfl rfl rfl rfl ?_
      refine g0 2 false 15 17 5 rfl rfl rfl rfl rfl rfl ?_
      refine g0 2 false 15 18 6 rfl rfl rfl rfl rfl rfl ?_
      refine g0 2 false 15 19 7 rfl rfl rfl rfl rfl rfl ?_
      refine s1 20 106 8 rfl rfl rfl rfl rfl rfl trivial ?_
      refine e1 114 rfl ?_
      refine keep [2, 3, 4, 5, 6, 7, 8, 20] rfl ?_
      refine q1 rfl (fun hc5 => ?_) (fun hc5 => ?_)
      · skip
        try simp only [decide_eq_true_eq, decide_eq_false_iff_not, Bool.not_eq_true', Bool.not_eq_false', beq_iff_eq, bne_iff_ne, beq_eq_false_iff_ne, Bool.and_eq_true, Bool.or_eq_true, Bool.and_eq_false_iff, Bool.or_eq_false_iff, ge_iff_le, gt_iff_lt, Int.not_lt, Int.not_le, ne_eq, Decidable.not_not, bne_eq_false_iff_eq] at hc5
        refine r0 ?_
        refine s1 21 114 1 rfl rfl rfl rfl rfl rfl trivial ?_
        refine s1 22 122 2 rfl rfl rfl rfl rfl rfl trivial ?_
        refine s0 130 3 rfl rfl rfl rfl rfl (by first | trivial | omega | (simp only [List.length_map, List.length_append, List.length_cons, List.length_nil] at *; omega)) ?_
        refine e1 138 rfl ?_
        refine tn ?_
        refine W_seq ?_
        refine r1 ?_
        refine s1 23 138 1 rfl rfl rfl rfl rfl rfl trivial ?_
        refine s1 24 146 2 rfl rfl rfl rfl rfl rfl (by first | trivial | omega | (simp only [List.length_map, List.length_append, List.length_cons, List.length_nil] at *; omega)) ?_
        refine s1 25 154 3 rfl rfl rfl rfl rfl rfl trivial ?_
        refine ask 25 rfl (fun hg7_25 => ?_) (fun hg7_25 => ?_)
        · skip
          try simp only [decide_eq_true_eq, decide_eq_false_iff_not, Bool.not_eq_true', Bool.not_eq_false', beq_iff_eq, bne_iff_ne, beq_eq_false_iff_ne, Bool.and_eq_true, Bool.or_eq_true, Bool.and_eq_false_iff, Bool.or_eq_false_iff, ge_iff_le, gt_iff_lt, Int.not_lt, Int.not_le, ne_eq, Decidable.not_not, bne_eq_false_iff_eq] at hg7_25
          refine g0 2 false 25 26 4 rfl rfl rfl rfl rfl rfl ?_
          refine g0 2 false 25 27 5 rfl rfl rfl rfl rfl rfl ?_
          refine g0 2 false 25 28 6 rfl rfl rfl rfl rfl rfl ?_
          refine g0 2 false 25 29 7 rfl rfl rfl rfl rfl rfl ?_
          refine s1 30 194 8 rfl rfl rfl rfl rfl rfl trivial ?_
          refine e1 202 rfl ?_
          refine keep [2, 3, 5, 6, 7, 8, 30] rfl ?_
          refine q1 rfl (fun hc7 => ?_) (fun hc7 => ?_)
          · skip
            try simp only [decide_eq_true_eq, decide_eq_false_iff_not, Bool.not_eq_true', Bool.not_eq_false', beq_iff_eq, bne_iff_ne, beq_eq_false_iff_ne, Bool.and_eq_true, Bool.or_eq_true, Bool.and_eq_false_iff, Bool.or_eq_false_iff, ge_iff_le, gt_iff_lt, Int.not_lt, Int.not_le, ne_eq, Decidable.not_not, bne_eq_false_iff_eq] at hc7
            refine r0 ?_
            refine s1 31 202 1 rfl rfl rfl rfl rfl rfl trivial ?_
            refine s1 32 210 2 rfl rfl rfl rfl rfl rfl trivial ?_
            refine s0 218 3 rfl rfl rfl rfl rfl (by first | trivial | omega | (simp only [List.length_map, List.length_append, List.length_cons, List.length_nil] at *; omega)) ?_
            refine e1 226 rfl ?_
            refine tn ?_
            refine r1 ?_
            refine s1 33 226 1 rfl rfl rfl rfl rfl rfl trivial ?_
            refine s1 34 234 2 rfl rfl rfl rfl rfl rfl (by first | trivial | omega | (simp only [List.length_map, List.length_append, List.length_cons, List.length_nil] at *; omega)) ?_
            refine s1 35 242 3 rfl rfl rfl rfl rfl rfl trivial ?_
            refine sA 36 250 4 rfl rfl rfl rfl rfl rfl rfl rfl rfl (by have := hs (n + 1) (by omega); exact this) ?_
            refine s1 37 258 5 rfl rfl rfl rfl rfl rfl trivial ?_
            refine s0 266 6 rfl rfl rfl rfl rfl (by first | trivial | omega | (simp only [List.length_map, List.length_append, List.length_cons, List.length_nil] at *; omega)) ?_
            refine e1 274 rfl ?_
            refine keep [2, 3, 6, 7, 8] rfl ?_
            refine r0 ?_
            refine s1 38 274 1 rfl rfl rfl rfl rfl rfl trivial ?_
            refine s1 39 282 2 rfl rfl rfl rfl rfl rfl (by first | trivial | omega | (simp only [List.length_map, List.length_append, List.length_cons, List.length_nil] at *; omega)) ?_
            refine sA 40 290 3 rfl rfl rfl rfl rfl rfl rfl rfl rfl (by have := fold_c l n; unfold inRange; omega) ?_
            refine s1 41 298 4 rfl rfl rfl rfl rfl rfl trivial ?_
            refine s0 306 5 rfl rfl rfl rfl rfl (by first | trivial | omega | (simp only [List.length_map, List.length_append, List.length_cons, List.length_nil] at *; omega)) ?_
            refine e1 314 rfl ?_
            refine bn ?_
            refine tn ?_
            refine chval 1 (rollBlk (foldTo l (n + 1))) rfl (blk_eq rfl (by simp only [Int.toNat_natCast] at *; simp only [foldTo, stepR]; split <;> omega) (by simp only [Int.toNat_natCast] at *; simp only [foldTo, stepR]; split <;> omega) rfl) ?_
            refine r0 ?_
            refine sA 42 314 1 rfl rfl rfl rfl rfl rfl rfl rfl rfl (by unfold inRange; omega) ?_
            refine s1 8 322 2 rfl rfl rfl rfl rfl rfl trivial ?_
            refine e1 330 rfl ?_
            refine tn ?_
            exact again (n + 1) [0, 1] (by omega) (by omega) rfl ⟨rfl, rfl, rfl, rfl, rfl, trivial⟩ ⟨rfl, rfl, trivial⟩
          · skip
            exact absurd hc7 (by decide)
        · skip
          try simp only [decide_eq_true_eq, decide_eq_false_iff_not, Bool.not_eq_true', Bool.not_eq_false', beq_iff_eq, bne_iff_ne, beq_eq_false_iff_ne, Bool.and_eq_true, Bool.or_eq_true, Bool.and_eq_false_iff, Bool.or_eq_false_iff, ge_iff_le, gt_iff_lt, Int.not_lt, Int.not_le, ne_eq, Decidable.not_not, bne_eq_false_iff_eq] at hg7_25
          refine g1 2 false 25 26 4 rfl rfl rfl rfl rfl ?_
          refine s1 26 162 4 rfl rfl rfl rfl rfl rfl trivial ?_
          refine g1 2 false 25 27 5 rfl rfl rfl rfl rfl ?_
          refine s1 27 170 5 rfl rfl rfl rfl rfl rfl trivial ?_
          refine g1 2 false 25 28 6 rfl rfl rfl rfl rfl ?_
          refine s1 28 178 6 rfl rfl rfl rfl rfl rfl (by first | trivial | omega | (simp only [List.length_map, List.length_append, List.length_cons, List.length_nil] at *; omega)) ?_
          refine g1 2 false 25 29 7 rfl rfl rfl rfl rfl ?_
          refine s1 29 186 7 rfl rfl rfl rfl rfl rfl (by first | trivial | omega | (simp only [List.length_map, List.length_append, List.length_cons, List.length_nil] at *; omega)) ?_
          refine s1 30 194 8 rfl rfl rfl rfl rfl rfl trivial ?_
          refine e1 202 rfl ?_
          refine keep [2, 3, 5, 6, 7, 8, 30] rfl ?_
          refine q1 rfl (fun hc7 => ?_) (fun hc7 => ?_)
          · skip
            try simp only [decide_eq_true_eq, decide_eq_false_iff_not, Bool.not_eq_true', Bool.not_eq_false', beq_iff_eq, bne_iff_ne, beq_eq_false_iff_ne, Bool.and_eq_true, Bool.or_eq_true, Bool.and_eq_false_iff, Bool.or_eq_false_iff, ge_iff_le, gt_iff_lt, Int.not_lt, Int.not_le, ne_eq, Decidable.not_not, bne_eq_false_iff_eq] at hc7
            refine r0 ?_
            refine s1 31 202 1 rfl rfl rfl rfl rfl rfl trivial ?_
            refine s1 32 210 2 rfl rfl rfl rfl rfl rfl trivial ?_
            refine s0 218 3 rfl rfl rfl rfl rfl (by first | trivial | omega | (simp only [List.length_map, List.length_append, List.length_cons, List.length_nil] at *; omega)) ?_
            refine e1 226 rfl ?_
            refine tn ?_
            refine r1 ?_
            refine s1 33 226 1 rfl rfl rfl rfl rfl rfl trivial ?_
            refine s1 34 234 2 rfl rfl rfl rfl rfl rfl (by first | trivial | omega | (simp only [List.length_map, List.length_append, List.length_cons, List.length_nil] at *; omega)) ?_
            refine s1 35 242 3 rfl rfl rfl rfl rfl rfl trivial ?_
            refine sA 36 250 4 rfl rfl rfl rfl rfl rfl rfl rfl rfl (by have := hs (n + 1) (by omega); exact this) ?_
            refine s1 37 258 5 rfl rfl rfl rfl rfl rfl trivial ?_
            refine s0 266 6 rfl rfl rfl rfl rfl (by first | trivial | omega | (simp only [List.length_map, List.length_append, List.length_cons, List.length_nil] at *; omega)) ?_
            refine e1 274 rfl ?_
            refine keep [2, 3, 6, 7, 8] rfl ?_
            refine r0 ?_
            refine s1 38 274 1 rfl rfl rfl rfl rfl rfl trivial ?_
            refine s1 39 282 2 rfl rfl rfl rfl rfl rfl (by first | trivial | omega | (simp only [List.length_map, List.length_append, List.length_cons, List.length_nil] at *; omega)) ?_
            refine sA 40 290 3 rfl rfl rfl rfl rfl rfl rfl rfl rfl (by have := fold_c l n; unfold inRange; omega) ?_
            refine s1 41 298 4 rfl rfl rfl rfl rfl rfl trivial ?_
            refine s0 306 5 rfl rfl rfl rfl rfl (by first | trivial | omega | (simp only [List.length_map, List.length_append, List.length_cons, List.length_nil] at *; omega)) ?_
            refine e1 314 rfl ?_
            refine bn ?_
            refine tn ?_
            refine chval 1 (rollBlk (foldTo l (n + 1))) rfl (blk_eq rfl (by simp only [Int.toNat_natCast] at *; simp only [foldTo, stepR]; split <;> omega) (by simp only [Int.toNat_natCast] at *; simp only [foldTo, stepR]; split <;> omega) rfl) ?_
            refine r0 ?_
            refine sA 42 314 1 rfl rfl rfl rfl rfl rfl rfl rfl rfl (by unfold inRange; omega) ?_
            refine s1 8 322 2 rfl rfl rfl rfl rfl rfl trivial ?_
            refine e1 330 rfl ?_
            refine tn ?_
            exact again (n + 1) [0, 1] (by omega) (by omega) rfl ⟨rfl, rfl, rfl, rfl, rfl, trivial⟩ ⟨rfl, rfl, trivial⟩
          · skip
            try simp only [decide_eq_true_eq, decide_eq_false_iff_not, Bool.not_eq_true', Bool.not_eq_false', beq_iff_eq, bne_iff_ne, beq_eq_false_iff_ne, Bool.and_eq_true, Bool.or_eq_true, Bool.and_eq_false_iff, Bool.or_eq_false_iff, ge_iff_le, gt_iff_lt, Int.not_lt, Int.not_le, ne_eq, Decidable.not_not, bne_eq_false_iff_eq] at hc7
            refine W_skip ?_
            refine tn ?_
            refine r1 ?_
            refine s1 33 202 1 rfl rfl rfl rfl rfl rfl trivial ?_
            refine s1 34 210 2 rfl rfl rfl rfl rfl rfl (by first | trivial | omega | (simp only [List.length_map, List.length_append, List.length_cons, List.length_nil] at *; omega)) ?_
            refine s1 35 218 3 rfl rfl rfl rfl rfl rfl trivial ?_
            refine sA 36 226 4 rfl rfl rfl rfl rfl rfl rfl rfl rfl (by have := hs (n + 1) (by omega); exact this) ?_
            refine s1 37 234 5 rfl rfl rfl rfl rfl rfl trivial ?_
            refine s0 242 6 rfl rfl rfl rfl rfl (by first | trivial | omega | (simp only [List.length_map, List.length_append, List.length_cons, List.length_nil] at *; omega)) ?_
            refine e1 250 rfl ?_
            refine keep [2, 3, 6, 7, 8] rfl ?_
            refine r0 ?_
            refine s1 38 250 1 rfl rfl rfl rfl rfl rfl trivial ?_
            refine s1 39 258 2 rfl rfl rfl rfl rfl rfl (by first | trivial | omega | (simp only [List.length_map, List.length_append, List.length_cons, List.length_nil] at *; omega)) ?_
            refine sA 40 266 3 rfl rfl rfl rfl rfl rfl rfl rfl rfl (by have := fold_c l n; unfold inRange; omega) ?_
            refine s1 41 274 4 rfl rfl rfl rfl rfl rfl trivial ?_
            refine s0 282 5 rfl rfl rfl rfl rfl (by first | trivial | omega | (simp only [List.length_map, List.length_append, List.length_cons, List.length_nil] at *; omega)) ?_
            refine e1 290 rfl ?_
            refine bn ?_
            refine tn ?_
            refine chval 1 (rollBlk (foldTo l (n + 1))) rfl (blk_eq rfl (by simp only [Int.toNat_natCast] at *; simp only [foldTo, stepR]; split <;> omega) (by simp only [Int.toNat_natCast] at *; simp only [foldTo, stepR]; split <;> omega) rfl) ?_
            refine r0 ?_
            refine sA 42 290 1 rfl rfl rfl rfl rfl rfl rfl rfl rfl (by unfold inRange; omega) ?_
            refine s1 8 298 2 rfl rfl rfl rfl rfl rfl trivial ?_
            refine e1 306 rfl ?_
            refine tn ?_
            exact again (n + 1) [0, 1] (by omega) (by omega) rfl ⟨rfl, rfl, rfl, rfl, rfl, trivial⟩ ⟨rfl, rfl, trivial⟩
      · skip
        exact absurd hc5 (by decide)
    · skip
      try simp only [decide_eq_true_eq, decide_eq_false_iff_not, Bool.not_eq_true', Bool.not_eq_false', beq_iff_eq, bne_iff_ne, beq_eq_false_iff_ne, Bool.and_eq_true, Bool.or_eq_true, Bool.and_eq_false_iff, Bool.or_eq_false_iff, ge_iff_le, gt_iff_lt, Int.not_lt, Int.not_le, ne_eq, Decidable.not_not, bne_eq_false_iff_eq] at hg5_15
      refine g1 2 false 15 16 4 rfl rfl rfl rfl rfl ?_
      refine s1 16 74 4 rfl rfl rfl rfl rfl rfl trivial ?_
      refine g1 2 false 15 17 5 rfl rfl rfl rfl rfl ?_
      refine s1 17 82 5 rfl rfl rfl rfl rfl rfl trivial ?_
      refine g1 2 false 15 18 6 rfl rfl rfl rfl rfl ?_
      refine s1 18 90 6 rfl rfl rfl rfl rfl rfl (by first | trivial | omega | (simp only [List.length_map, List.length_append, List.length_cons, List.length_nil] at *; omega)) ?_
      refine g1 2 false 15 19 7 rfl rfl rfl rfl rfl ?_
      refine s1 19 98 7 rfl rfl rfl rfl rfl rfl (by first | trivial | omega | (simp only [List.length_map, List.length_append, List.length_cons, List.length_nil] at *; omega)) ?_
      refine s1 20 106 8 rfl rfl rfl rfl rfl rfl trivial ?_
      refine e1 114 rfl ?_
      refine keep [2, 3, 4, 5, 6, 7, 8, 20] rfl ?_
      refine q1 rfl (fun hc5 => ?_) (fun hc5 => ?_)
      · skip
        try simp only [decide_eq_true_eq, decide_eq_false_iff_not, Bool.not_eq_true', Bool.not_eq_false', beq_iff_eq, bne_iff_ne, beq_eq_false_iff_ne, Bool.and_eq_true, Bool.or_eq_true, Bool.and_eq_false_iff, Bool.or_eq_false_iff, ge_iff_le, gt_iff_lt, Int.not_lt, Int.not_le, ne_eq, Decidable.not_not, bne_eq_false_iff_eq] at hc5
        refine r0 ?_
        refine s1 21 114 1 rfl rfl rfl rfl rfl rfl trivial ?_
        refine s1 22 122 2 rfl rfl rfl rfl rfl rfl trivial ?_
        refine s0 130 3 rfl rfl rfl rfl rfl (by first | trivial | omega | (simp only [List.length_map, List.length_append, List.length_cons, List.length_nil] at *; omega)) ?_
        refine e1 138 rfl ?_
        refine tn ?_
        refine W_seq ?_
        refine r1 ?_
        refine s1 23 138 1 rfl rfl rfl rfl rfl rfl trivial ?_
        refine s1 24 146 2 rfl rfl rfl rfl rfl rfl (by first | trivial | omega | (simp only [List.length_map, List.length_append, List.length_cons, List.length_nil] at *; omega)) ?_
        refine s1 25 154 3 rfl rfl rfl rfl rfl rfl trivial ?_
        refine ask 25 rfl (fun hg7_25 => ?_) (fun hg7_25 => ?_)
        · skip
          try simp only [decide_eq_true_eq, decide_eq_false_iff_not, Bool.not_eq_true', Bool.not_eq_false', beq_iff_eq, bne_iff_ne, beq_eq_false_iff_ne, Bool.and_eq_true, Bool.or_eq_true, Bool.and_eq_false_iff, Bool.or_eq_false_iff, ge_iff_le, gt_iff_lt, Int.not_lt, Int.not_le, ne_eq, Decidable.not_not, bne_eq_false_iff_eq] at hg7_25
          refine g0 2 false 25 26 4 rfl rfl rfl rfl rfl rfl ?_
          refine g0 2 false 25 27 5 rfl rfl rfl rfl rfl rfl ?_
          refine g0 2 false 25 28 6 rfl rfl rfl rfl rfl rfl ?_
          refine g0 2 false 25 29 7 rfl rfl rfl rfl rfl rfl ?_
          refine s1 30 194 8 rfl rfl rfl rfl rfl rfl trivial ?_
          refine e1 202 rfl ?_
          refine keep [2, 3, 5, 6, 7, 8, 30] rfl ?_
          refine q1 rfl (fun hc7 => ?_) (fun hc7 => ?_)
          · skip
            try simp only [decide_eq_true_eq, decide_eq_false_iff_not, Bool.not_eq_true', Bool.not_eq_false', beq_iff_eq, bne_iff_ne, beq_eq_false_iff_ne, Bool.and_eq_true, Bool.or_eq_true, Bool.and_eq_false_iff, Bool.or_eq_false_iff, ge_iff_le, gt_iff_lt, Int.not_lt, Int.not_le, ne_eq, Decidable.not_not, bne_eq_false_iff_eq] at hc7
            refine r0 ?_
            refine s1 31 202 1 rfl rfl rfl rfl rfl rfl trivial ?_
            refine s1 32 210 2 rfl rfl rfl rfl rfl rfl trivial ?_
            refine s0 218 3 rfl rfl rfl rfl rfl (by first | trivial | omega | (simp only [List.length_map, List.length_append, List.length_cons, List.length_nil] at *; omega)) ?_
            refine e1 226 rfl ?_
            refine tn ?_
            refine r1 ?_
            refine s1 33 226 1 rfl rfl rfl rfl rfl rfl trivial ?_
            refine s1 34 234 2 rfl rfl rfl rfl rfl rfl (by first | trivial | omega | (simp only [List.length_map, List.length_append, List.length_cons, List.length_nil] at *; omega)) ?_
            refine s1 35 242 3 rfl rfl rfl rfl rfl rfl trivial ?_
            refine sA 36 250 4 rfl rfl rfl rfl rfl rfl rfl rfl rfl (by have := hs (n + 1) (by omega); exact this) ?_
            refine s1 37 258 5 rfl rfl rfl rfl rfl rfl trivial ?_
            refine s0 266 6 rfl rfl rfl rfl rfl (by first | trivial | omega | (simp only [List.length_map, List.length_append, List.length_cons, List.length_nil] at *; omega)) ?_
            refine e1 274 rfl ?_
            refine keep [2, 3, 6, 7, 8] rfl ?_
            refine r0 ?_
            refine s1 38 274 1 rfl rfl rfl rfl rfl rfl trivial ?_
            refine s1 39 282 2 rfl rfl rfl rfl rfl rfl (by first | trivial | omega | (simp only [List.length_map, List.length_append, List.length_cons, List.length_nil] at *; omega)) ?_
            refine sA 40 290 3 rfl rfl rfl rfl rfl rfl rfl rfl rfl (by have := fold_c l n; unfold inRange; omega) ?_
            refine s1 41 298 4 rfl rfl rfl rfl rfl rfl trivial ?_
            refine s0 306 5 rfl rfl rfl rfl rfl (by first | trivial | omega | (simp only [List.length_map, List.length_append, List.length_cons, List.length_nil] at *; omega)) ?_
            refine e1 314 rfl ?_
            refine bn ?_
            refine tn ?_
            refine chval 1 (rollBlk (foldTo l (n + 1))) rfl (blk_eq rfl (by simp only [Int.toNat_natCast] at *; simp only [foldTo, stepR]; split <;> omega) (by simp only [Int.toNat_natCast] at *; simp only [foldTo, stepR]; split <;> omega) rfl) ?_
            refine r0 ?_
            refine sA 42 314 1 rfl rfl rfl rfl rfl rfl rfl rfl rfl (by unfold inRange; omega) ?_
            refine s1 8 322 2 rfl rfl rfl rfl rfl rfl trivial ?_
            refine e1 330 rfl ?_
            refine tn ?_
            exact again (n + 1) [0, 1] (by omega) (by omega) rfl ⟨rfl, rfl, rfl, rfl, rfl, trivial⟩ ⟨rfl, rfl, trivial⟩
          · skip
            exact absurd hc7 (by decide)
        · skip
          try simp only [decide_eq_true_eq, decide_eq_false_iff_not, Bool.not_eq_true', Bool.not_eq_false', beq_iff_eq, bne_iff_ne, beq_eq_false_iff_ne, Bool.and_eq_true, Bool.or_eq_true, Bool.and_eq_false_iff, Bool.or_eq_false_iff, ge_iff_le, gt_iff_lt, Int.not_lt, Int.not_le, ne_eq, Decidable.not_not, bne_eq_false_iff_eq] at hg7_25
          refine g1 2 false 25 26 4 rfl rfl rfl rfl rfl ?_
          refine s1 26 162 4 rfl rfl rfl rfl rfl rfl trivial ?_
          refine g1 2 false 25 27 5 rfl rfl rfl rfl rfl ?_
          refine s1 27 170 5 rfl rfl rfl rfl rfl rfl trivial ?_
          refine g1 2 false 25 28 6 rfl rfl rfl rfl rfl ?_
          refine s1 28 178 6 rfl rfl rfl rfl rfl rfl (by first | trivial | omega | (simp only [List.length_map, List.length_append, List.length_cons, List.length_nil] at *; omega)) ?_
          refine g1 2 false 25 29 7 rfl rfl rfl rfl rfl ?_
          refine s1 29 186 7 rfl rfl rfl rfl rfl rfl (by first | trivial | omega | (simp only [List.length_map, List.length_append, List.length_cons, List.length_nil] at *; omega)) ?_
          refine s1 30 194 8 rfl rfl rfl rfl rfl rfl trivial ?_
          refine e1 202 rfl ?_
          refine keep [2, 3, 5, 6, 7, 8, 30] rfl ?_
          refine q1 rfl (fun hc7 => ?_) (fun hc7 => ?_)
          · skip
            try simp only [decide_eq_true_eq, decide_eq_false_iff_not, Bool.not_eq_true', Bool.not_eq_false', beq_iff_eq, bne_iff_ne, beq_eq_false_iff_ne, Bool.and_eq_true, Bool.or_eq_true, Bool.and_eq_false_iff, Bool.or_eq_false_iff, ge_iff_le, gt_iff_lt, Int.not_lt, Int.not_le, ne_eq, Decidable.not_not, bne_eq_false_iff_eq] at hc7
            refine r0 ?_
            refine s1 31 202 1 rfl rfl rfl rfl rfl rfl trivial ?_
            refine s1 32 210 2 rfl rfl rfl rfl rfl rfl trivial ?_
            refine s0 218 3 rfl rfl rfl rfl rfl (by first | trivial | omega | (simp only [List.length_map, List.length_append, List.length_cons, List.length_nil] at *; omega)) ?_
            refine e1 226 rfl ?_
            refine tn ?_
            refine r1 ?_
            refine s1 33 226 1 rfl rfl rfl rfl rfl rfl trivial ?_
            refine s1 34 234 2 rfl rfl rfl rfl rfl rfl (by first | trivial | omega | (simp only [List.length_map, List.length_append, List.length_cons, List.length_nil] at *; omega)) ?_
            refine s1 35 242 3 rfl rfl rfl rfl rfl rfl trivial ?_
            refine sA 36 250 4 rfl rfl rfl rfl rfl rfl rfl rfl rfl (by have := hs (n + 1) (by omega); exact this) ?_
            refine s1 37 258 5 rfl rfl rfl rfl rfl rfl trivial ?_
            refine s0 266 6 rfl rfl rfl rfl rfl (by first | trivial | omega | (simp only [List.length_map, List.length_append, List.length_cons, List.length_nil] at *; omega)) ?_
            refine e1 274 rfl ?_
            refine keep [2, 3, 6, 7, 8] rfl ?_
            refine r0 ?_
            refine s1 38 274 1 rfl rfl rfl rfl rfl rfl trivial ?_
            refine s1 39 282 2 rfl rfl rfl rfl rfl rfl (by first | trivial | omega | (simp only [List.length_map, List.length_append, List.length_cons, List.length_nil] at *; omega)) ?_
            refine sA 40 290 3 rfl rfl rfl rfl rfl rfl rfl rfl rfl (by have := fold_c l n; unfold inRange; omega) ?_
            refine s1 41 298 4 rfl rfl rfl rfl rfl rfl trivial ?_
            refine s0 306 5 rfl rfl rfl rfl rfl (by first | trivial | omega | (simp only [List.length_map, List.length_append, List.length_cons, List.length_nil] at *; omega)) ?_
            refine e1 314 rfl ?_
            refine bn ?_
            refine tn ?_
            refine chval 1 (rollBlk (foldTo l (n + 1))) rfl (blk_eq rfl (by simp only [Int.toNat_natCast] at *; simp only [foldTo, stepR]; split <;> omega) (by simp only [Int.toNat_natCast] at *; simp only [foldTo, stepR]; split <;> omega) rfl) ?_
            refine r0 ?_
            refine sA 42 314 1 rfl rfl rfl rfl rfl rfl rfl rfl rfl (by unfold inRange; omega) ?_
            refine s1 8 322 2 rfl rfl rfl rfl rfl rfl trivial ?_
            refine e1 330 rfl ?_
            refine tn ?_
            exact again (n + 1) [0, 1] (by omega) (by omega) rfl ⟨rfl, rfl, rfl, rfl, rfl, trivial⟩ ⟨rfl, rfl, trivial⟩
          · skip
            try simp only [decide_eq_true_eq, decide_eq_false_iff_not, Bool.not_eq_true', Bool.not_eq_false', beq_iff_eq, bne_iff_ne, beq_eq_false_iff_ne, Bool.and_eq_true, Bool.or_eq_true, Bool.and_eq_false_iff, Bool.or_eq_false_iff, ge_iff_le, gt_iff_lt, Int.not_lt, Int.not_le, ne_eq, Decidable.not_not, bne_eq_false_iff_eq] at hc7
            refine W_skip ?_
            refine tn ?_
            refine r1 ?_
            refine s1 33 202 1 rfl rfl rfl rfl rfl rfl trivial ?_
            refine s1 34 210 2 rfl rfl rfl rfl rfl rfl (by first | trivial | omega | (simp only [List.length_map, List.length_append, List.length_cons, List.length_nil] at *; omega)) ?_
            refine s1 35 218 3 rfl rfl rfl rfl rfl rfl trivial ?_
            refine sA 36 226 4 rfl rfl rfl rfl rfl rfl rfl rfl rfl (by have := hs (n + 1) (by omega); exact this) ?_
            refine s1 37 234 5 rfl rfl rfl rfl rfl rfl trivial ?_
            refine s0 242 6 rfl rfl rfl rfl rfl (by first | trivial | omega | (simp only [List.length_map, List.length_append, List.length_cons, List.length_nil] at *; omega)) ?_
            refine e1 250 rfl ?_
            refine keep [2, 3, 6, 7, 8] rfl ?_
            refine r0 ?_
            refine s1 38 250 1 rfl rfl rfl rfl rfl rfl trivial ?_
            refine s1 39 258 2 rfl rfl rfl rfl rfl rfl (by first | trivial | omega | (simp only [List.length_map, List.length_append, List.length_cons, List.length_nil] at *; omega)) ?_
            refine sA 40 266 3 rfl rfl rfl rfl rfl rfl rfl rfl rfl (by have := fold_c l n; unfold inRange; omega) ?_
            refine s1 41 274 4 rfl rfl rfl rfl rfl rfl trivial ?_
            refine s0 282 5 rfl rfl rfl rfl rfl (by first | trivial | omega | (simp only [List.length_map, List.length_append, List.length_cons, List.length_nil] at *; omega)) ?_
            refine e1 290 rfl ?_
            refine bn ?_
            refine tn ?_
            refine chval 1 (rollBlk (foldTo l (n + 1))) rfl (blk_eq rfl (by simp only [Int.toNat_natCast] at *; simp only [foldTo, stepR]; split <;> omega) (by simp only [Int.toNat_natCast] at *; simp only [foldTo, stepR]; split <;> omega) rfl) ?_
            refine r0 ?_
            refine sA 42 290 1 rfl rfl rfl rfl rfl rfl rfl rfl rfl (by unfold inRange; omega) ?_
            refine s1 8 298 2 rfl rfl rfl rfl rfl rfl trivial ?_
            refine e1 306 rfl ?_
            refine tn ?_
            exact again (n + 1) [0, 1] (by omega) (by omega) rfl ⟨rfl, rfl, rfl, rfl, rfl, trivial⟩ ⟨rfl, rfl, trivial⟩
      · skip
        try simp only [decide_eq_true_eq, decide_eq_false_iff_not, Bool.not_eq_true', Bool.not_eq_false', beq_iff_eq, bne_iff_ne, beq_eq_false_iff_ne, Bool.and_eq_true, Bool.or_eq_true, Bool.and_eq_false_iff, Bool.or_eq_false_iff, ge_iff_le, gt_iff_lt, Int.not_lt, Int.not_le, ne_eq, Decidable.not_not, bne_eq_false_iff_eq] at hc5
        refine W_skip ?_
        refine tn ?_
        refine W_seq ?_
        refine r1 ?_
        refine s1 23 114 1 rfl rfl rfl rfl rfl rfl trivial ?_
        refine s1 24 122 2 rfl rfl rfl rfl rfl rfl (by first | trivial | omega | (simp only [List.length_map, List.length_append, List.length_cons, List.length_nil] at *; omega)) ?_
        refine s1 25 130 3 rfl rfl rfl rfl rfl rfl trivial ?_
        refine ask 25 rfl (fun hg7_25 => ?_) (fun hg7_25 => ?_)
        · skip
          try simp only [decide_eq_true_eq, decide_eq_false_iff_not, Bool.not_eq_true', Bool.not_eq_false', beq_iff_eq, bne_iff_ne, beq_eq_false_iff_ne, Bool.and_eq_true, Bool.or_eq_true, Bool.and_eq_false_iff, Bool.or_eq_false_iff, ge_iff_le, gt_iff_lt, Int.not_lt, Int.not_le, ne_eq, Decidable.not_not, bne_eq_false_iff_eq] at hg7_25
          refine g0 2 false 25 26 4 rfl rfl rfl rfl rfl rfl ?_
          refine g0 2 false 25 27 5 rfl rfl rfl rfl rfl rfl ?_
          refine g0 2 false 25 28 6 rfl rfl rfl rfl rfl rfl ?_
          refine g0 2 false 25 29 7 rfl rfl rfl rfl rfl rfl ?_
          refine s1 30 170 8 rfl rfl rfl rfl rfl rfl trivial ?_
          refine e1 178 rfl ?_
          refine keep [2, 3, 5, 6, 7, 8, 30] rfl ?_
          refine q1 rfl (fun hc7 => ?_) (fun hc7 => ?_)
          · skip
            try simp only [decide_eq_true_eq, decide_eq_false_iff_not, Bool.not_eq_true', Bool.not_eq_false', beq_iff_eq, bne_iff_ne, beq_eq_false_iff_ne, Bool.and_eq_true, Bool.or_eq_true, Bool.and_eq_false_iff, Bool.or_eq_false_iff, ge_iff_le, gt_iff_lt, Int.not_lt, Int.not_le, ne_eq, Decidable.not_not, bne_eq_false_iff_eq] at hc7
            refine r0 ?_
            refine s1 31 178 1 rfl rfl rfl rfl rfl rfl trivial ?_
            refine s1 32 186 2 rfl rfl rfl rfl rfl rfl trivial ?_
            refine s0 194 3 rfl rfl rfl rfl rfl (by first | trivial | omega | (simp only [List.length_map, List.length_append, List.length_cons, List.length_nil] at *; omega)) ?_
            refine e1 202 rfl ?_
            refine tn ?_
            refine r1 ?_
            refine s1 33 202 1 rfl rfl rfl rfl rfl rfl trivial ?_
            refine s1 34 210 2 rfl rfl rfl rfl rfl rfl (by first | trivial | omega | (simp only [List.length_map, List.length_append, List.length_cons, List.length_nil] at *; omega)) ?_
            refine s1 35 218 3 rfl rfl rfl rfl rfl rfl trivial ?_
            refine sA 36 226 4 rfl rfl rfl rfl rfl rfl rfl rfl rfl (by have := hs (n + 1) (by omega); exact this) ?_
            refine s1 37 234 5 rfl rfl rfl rfl rfl rfl trivial ?_
            refine s0 242 6 rfl rfl rfl rfl rfl (by first | trivial | omega | (simp only [List.length_map, List.length_append, List.length_cons, List.length_nil] at *; omega)) ?_
            refine e1 250 rfl ?_
            refine keep [2, 3, 6, 7, 8] rfl ?_
            refine r0 ?_
            refine s1 38 250 1 rfl rfl rfl rfl rfl rfl trivial ?_
            refine s1 39 258 2 rfl rfl rfl rfl rfl rfl (by first | trivial | omega | (simp only [List.length_map, List.length_append, List.length_cons, List.length_nil] at *; omega)) ?_
            refine sA 40 266 3 rfl rfl rfl rfl rfl rfl rfl rfl rfl (by have := fold_c l n; unfold inRange; omega) ?_
            refine s1 41 274 4 rfl rfl rfl rfl rfl rfl trivial ?_
            refine s0 282 5 rfl rfl rfl rfl rfl (by first | trivial | omega | (simp only [List.length_map, List.length_append, List.length_cons, List.length_nil] at *; omega)) ?_
            refine e1 290 rfl ?_
            refine bn ?_
            refine tn ?_
            refine chval 1 (rollBlk (foldTo l (n + 1))) rfl (blk_eq rfl (by simp only [Int.toNat_natCast] at *; simp only [foldTo, stepR]; split <;> omega) (by simp only [Int.toNat_natCast] at *; simp only [foldTo, stepR]; split <;> omega) rfl) ?_
            refine r0 ?_
            refine sA 42 290 1 rfl rfl rfl rfl rfl rfl rfl rfl rfl (by unfold inRange; omega) ?_
            refine s1 8 298 2 rfl rfl rfl rfl rfl rfl trivial ?_
            refine e1 306 rfl ?_
            refine tn ?_
            exact again (n + 1) [0, 1] (by omega) (by omega) rfl ⟨rfl, rfl, rfl, rfl, rfl, trivial⟩ ⟨rfl, rfl, trivial⟩
          · skip
            exact absurd hc7 (by decide)
        · skip
          try simp only [decide_eq_true_eq, decide_eq_false_iff_not, Bool.not_eq_true', Bool.not_eq_false', beq_iff_eq, bne_iff_ne, beq_eq_false_iff_ne, Bool.and_eq_true, Bool.or_eq_true, Bool.and_eq_false_iff, Bool.or_eq_false_iff, ge_iff_le, gt_iff_lt, Int.not_lt, Int.not_le, ne_eq, Decidable.not_not, bne_eq_false_iff_eq] at hg7_25
          refine g1 2 false 25 26 4 rfl rfl rfl rfl rfl ?_
          refine s1 26 138 4 rfl rfl rfl rfl rfl rfl trivial ?_
          refine g1 2 false 25 27 5 rfl rfl rfl rfl rfl ?_
          refine s1 27 146 5 rfl rfl rfl rfl rfl rfl trivial ?_
          refine g1 2 false 25 28 6 rfl rfl rfl rfl rfl ?_
          refine s1 28 154 6 rfl rfl rfl rfl rfl rfl (by first | trivial | omega | (simp only [List.length_map, List.length_append, List.length_cons, List.length_nil] at *; omega)) ?_
          refine g1 2 false 25 29 7 rfl rfl rfl rfl rfl ?_
          refine s1 29 162 7 rfl rfl rfl rfl rfl rfl (by first | trivial | omega | (simp only [List.length_map, List.length_append, List.length_cons, List.length_nil] at *; omega)) ?_
          refine s1 30 170 8 rfl rfl rfl rfl rfl rfl trivial ?_
          refine e1 178 rfl ?_
          refine keep [2, 3, 5, 6, 7, 8, 30] rfl ?_
          refine q1 rfl (fun hc7 => ?_) (fun hc7 => ?_)
          · skip
            try simp only [decide_eq_true_eq, decide_eq_false_iff_not, Bool.not_eq_true', Bool.not_eq_false', beq_iff_eq, bne_iff_ne, beq_eq_false_iff_ne, Bool.and_eq_true, Bool.or_eq_true, Bool.and_eq_false_iff, Bool.or_eq_false_iff, ge_iff_le, gt_iff_lt, Int.not_lt, Int.not_le, ne_eq, Decidable.not_not, bne_eq_false_iff_eq] at hc7
            refine r0 ?_
            refine s1 31 178 1 rfl rfl rfl rfl rfl rfl trivial ?_
            refine s1 32 186 2 rfl rfl rfl rfl rfl rfl trivial ?_
            refine s0 194 3 rfl rfl rfl rfl rfl (by first | trivial | omega | (simp only [List.length_map, List.length_append, List.length_cons, List.length_nil] at *; omega)) ?_
            refine e1 202 rfl ?_
            refine tn ?_
            refine r1 ?_
            refine s1 33 202 1 rfl rfl rfl rfl rfl rfl trivial ?_
            refine s1 34 210 2 rfl rfl rfl rfl rfl rfl (by first | trivial | omega | (simp only [List.length_map, List.length_append, List.length_cons, List.length_nil] at *; omega)) ?_
            refine s1 35 218 3 rfl rfl rfl rfl rfl rfl trivial ?_
            refine sA 36 226 4 rfl rfl rfl rfl rfl rfl rfl rfl rfl (by have := hs (n + 1) (by omega); exact this) ?_
            refine s1 37 234 5 rfl rfl rfl rfl rfl rfl trivial ?_
            refine s0 242 6 rfl rfl rfl rfl rfl (by first | trivial | omega | (simp only [List.length_map, List.length_append, List.length_cons, List.length_nil] at *; omega)) ?_
            refine e1 250 rfl ?_
            refine keep [2, 3, 6, 7, 8] rfl ?_
            refine r0 ?_
            refine s1 38 250 1 rfl rfl rfl rfl rfl rfl trivial ?_
            refine s1 39 258 2 rfl rfl rfl rfl rfl rfl (by first | trivial | omega | (simp only [List.length_map, List.length_append, List.length_cons, List.length_nil] at *; omega)) ?_
            refine sA 40 266 3 rfl rfl rfl rfl rfl rfl rfl rfl rfl (by have := fold_c l n; unfold inRange; omega) ?_
            refine s1 41 274 4 rfl rfl rfl rfl rfl rfl trivial ?_
            refine s0 282 5 rfl rfl rfl rfl rfl (by first | trivial | omega | (simp only [List.length_map, List.length_append, List.length_cons, List.length_nil] at *; omega)) ?_
            refine e1 290 rfl ?_
            refine bn ?_
            refine tn ?_
            refine chval 1 (rollBlk (foldTo l (n + 1))) rfl (blk_eq rfl (by simp only [Int.toNat_natCast] at *; simp only [foldTo, stepR]; split <;> omega) (by simp only [Int.toNat_natCast] at *; simp only [foldTo, stepR]; split <;> omega) rfl) ?_
            refine r0 ?_
            refine sA 42 290 1 rfl rfl rfl rfl rfl rfl rfl rfl rfl (by unfold inRange; omega) ?_
            refine s1 8 298 2 rfl rfl rfl rfl rfl rfl trivial ?_
            refine e1 306 rfl ?_
            refine tn ?_
            exact again (n + 1) [0, 1] (by omega) (by omega) rfl ⟨rfl, rfl, rfl, rfl, rfl, trivial⟩ ⟨rfl, rfl, trivial⟩
          · skip
            try simp only [decide_eq_true_eq, decide_eq_false_iff_not, Bool.not_eq_true', Bool.not_eq_false', beq_iff_eq, bne_iff_ne, beq_eq_false_iff_ne, Bool.and_eq_true, Bool.or_eq_true, Bool.and_eq_false_iff, Bool.or_eq_false_iff, ge_iff_le, gt_iff_lt, Int.not_lt, Int.not_le, ne_eq, Decidable.not_not, bne_eq_false_iff_eq] at hc7
            refine W_skip ?_
            refine tn ?_
            refine r1 ?_
            refine s1 33 178 1 rfl rfl rfl rfl rfl rfl trivial ?_
            refine s1 34 186 2 rfl rfl rfl rfl rfl rfl (by first | trivial | omega | (simp only [List.length_map, List.length_append, List.length_cons, List.length_nil] at *; omega)) ?_
            refine s1 35 194 3 rfl rfl rfl rfl rfl rfl trivial ?_
            refine sA 36 202 4 rfl rfl rfl rfl rfl rfl rfl rfl rfl (by have := hs (n + 1) (by omega); exact this) ?_
            refine s1 37 210 5 rfl rfl rfl rfl rfl rfl trivial ?_
            refine s0 218 6 rfl rfl rfl rfl rfl (by first | trivial | omega | (simp only [List.length_map, List.length_append, List.length_cons, List.length_nil] at *; omega)) ?_
            refine e1 226 rfl ?_
            refine keep [2, 3, 6, 7, 8] rfl ?_
            refine r0 ?_
            refine s1 38 226 1 rfl rfl rfl rfl rfl rfl trivial ?_
            refine s1 39 234 2 rfl rfl rfl rfl rfl rfl (by first | trivial | omega | (simp only [List.length_map, List.length_append, List.length_cons, List.length_nil] at *; omega)) ?_
            refine sA 40 242 3 rfl rfl rfl rfl rfl rfl rfl rfl rfl (by have := fold_c l n; unfold inRange; omega) ?_
            refine s1 41 250 4 rfl rfl rfl rfl rfl rfl trivial ?_
            refine s0 258 5 rfl rfl rfl rfl rfl (by first | trivial | omega | (simp only [List.length_map, List.length_append, List.length_cons, List.length_nil] at *; omega)) ?_
            refine e1 266 rfl ?_
            refine bn ?_
            refine tn ?_
            refine chval 1 (rollBlk (foldTo l (n + 1))) rfl (blk_eq rfl (by simp only [Int.toNat_natCast] at *; simp only [foldTo, stepR]; split <;> omega) (by simp only [Int.toNat_natCast] at *; simp only [foldTo, stepR]; split <;> omega) rfl) ?_
            refine r0 ?_
            refine sA 42 266 1 rfl rfl rfl rfl rfl rfl rfl rfl rfl (by unfold inRange; omega) ?_
            refine s1 8 274 2 rfl rfl rfl rfl rfl rfl trivial ?_
            refine e1 282 rfl ?_
            refine tn ?_
            exact again (n + 1) [0, 1] (by omega) (by omega) rfl ⟨rfl, rfl, rfl, rfl, rfl, trivial⟩ ⟨rfl, rfl, trivial⟩
  · skip
    try simp only [decide_eq_true_eq, decide_eq_false_iff_not, Bool.not_eq_true', Bool.not_eq_false', beq_iff_eq, bne_iff_ne, beq_eq_false_iff_ne, Bool.and_eq_true, Bool.or_eq_true, Bool.and_eq_false_iff, Bool.or_eq_false_iff, ge_iff_le, gt_iff_lt, Int.not_lt, Int.not_le, ne_eq, Decidable.not_not, bne_eq_false_iff_eq] at hc3
    refine W_exit ?_
    refine tx ?_
    refine tx ?_
    refine bx ?_
    refine tn ?_
    obtain rfl : n = l.length := (by omega)
    refine r1 ?_
    refine s1 43 10 1 rfl rfl rfl rfl rfl rfl (by first | trivial | omega | (simp only [List.length_map, List.length_append, List.length_cons, List.length_nil] at *; omega)) ?_
    refine s0 18 2 rfl rfl rfl rfl rfl (by first | trivial | omega | (simp only [List.length_map, List.length_append, List.length_cons, List.length_nil] at *; omega)) ?_
    refine e1 26 rfl ?_
    refine keep [2] rfl ?_
    refine W_ret ?_
    exact outN (rollS (foldTo l l.length)) (π := []) (hout := []) Tryd.results46 rfl (by trivial) rfl rfl rfl trivial ⟨rfl, rfl⟩

theorem refRollOf_ok (l : List Smp) (hin : SmpIn l) (hz : sfault l = 0) : Spec Tryd.prog GC 17 [smpV l] [] (fun r ho => r = SV.tup [rollS (ofR l), SV.i (sfault l)] ∧ ho = []) := by
  have hp := sf_parts hz
  have hv := vals_in hz
  have hvl := vals_len l
  refine start 28 0 Tryd.func17 rfl rfl rfl rfl ?_
  refine r1 ?_
  refine s1 2 0 1 rfl rfl rfl rfl rfl rfl trivial ?_
  refine s1 3 8 2 rfl rfl rfl rfl rfl rfl trivial ?_
  refine e1 16 rfl ?_
  refine keep [0, 2] rfl ?_
  refine W_seq ?_
  refine r1 ?_
  refine s1 8 16 1 rfl rfl rfl rfl rfl rfl trivial ?_
  refine c1 (sfault_any l hin) [] [] 9 24 2 rfl rfl rfl rfl rfl rfl rfl rfl Tryd.func32 rfl rfl rfl rfl trivial rfl rfl ?_
  refine s1 4 32 3 rfl rfl rfl rfl rfl rfl trivial ?_
  refine e1 40 rfl ?_
  refine keep [0, 2, 4] rfl ?_
  refine r1 ?_
  refine s1 10 40 1 rfl rfl rfl rfl rfl rfl trivial ?_
  refine s1 11 48 2 rfl rfl rfl rfl rfl rfl (by first | trivial | omega | (simp only [List.length_map, List.length_append, List.length_cons, List.length_nil] at *; omega)) ?_
  refine e1 56 rfl ?_
  refine keep [0, 2, 4, 11] rfl ?_
  refine q1 rfl (fun hc2 => ?_) (fun hc2 => ?_)
  · skip
    exact absurd hz (by simpa using hc2)
  · skip
    try simp only [decide_eq_true_eq, decide_eq_false_iff_not, Bool.not_eq_true', Bool.not_eq_false', beq_iff_eq, bne_iff_ne, beq_eq_false_iff_ne, Bool.and_eq_true, Bool.or_eq_true, Bool.and_eq_false_iff, Bool.or_eq_false_iff, ge_iff_le, gt_iff_lt, Int.not_lt, Int.not_le, ne_eq, Decidable.not_not, bne_eq_false_iff_eq] at hc2
    refine W_skip ?_
    refine tn ?_
    refine r1 ?_
    refine s1 5 56 1 rfl rfl rfl rfl rfl rfl trivial ?_
    refine e1 64 rfl ?_
    refine keep [0, 2, 5] rfl ?_
    refine W_seq ?_
    refine r1 ?_
    refine s1 14 64 1 rfl rfl rfl rfl rfl rfl trivial ?_
    refine s1 15 72 2 rfl rfl rfl rfl rfl rfl (by first | trivial | omega | (simp only [List.length_map, List.length_append, List.length_cons, List.length_nil] at *; omega)) ?_
    refine s1 16 80 3 rfl rfl rfl rfl rfl rfl trivial ?_
    refine e1 88 rfl ?_
    refine keep [2, 5, 14, 15, 16] rfl ?_
    refine W_block ?_
    refine ghostly 5 3 1 (intF []) rfl ?_
    refine loop (α := Nat) 2 (fun n => [(2, .ptr 0 0 0), (5, .sl 1 0 ((vals l).take (n)).length), (14, smpV l), (15, SV.i l.length), (16, SV.i (n))]) (fun n => [some (rollBlk ⟨0, 0, 0, 0⟩), some (.rows 3 1 ((vals l).take (n)).length (intF ((vals l).take (n))))]) (fun n => (n) ≤ l.length) (fun n => l.length - (n)) (((0) : Nat)) [0, 88] (fun _ => rfl) (show (0) ≤ l.length from (Nat.zero_le _)) rfl ⟨rfl, rfl, rfl, rfl, rfl, trivial⟩ ⟨rfl, rfl, trivial⟩ (fun n hx => ?_)
    show W _ _ _ ⟨tOf [(2, .ptr 0 0 0), (5, .sl 1 0 ((vals l).take n).length), (14, smpV l), (15, SV.i l.length), (16, SV.i n)], hOf [some (rollBlk ⟨0, 0, 0, 0⟩), some (.rows 3 1 ((vals l).take n).length (intF ((vals l).take n)))], 2⟩
    have hx : n ≤ l.length := hx
    refine r1 ?_
    refine s1 17 2 1 rfl rfl rfl rfl rfl rfl (by first | trivial | omega | (simp only [List.length_map, List.length_append, List.length_cons, List.length_nil] at *; omega)) ?_
    refine e1 10 rfl ?_
    refine keep [2, 5, 14, 15, 16, 17] rfl ?_
    refine W_seq ?_
    refine q1 rfl (fun hc6 => ?_) (fun hc6 => ?_)
    · skip
      try simp only [decide_eq_true_eq, decide_eq_false_iff_not, Bool.not_eq_true', Bool.not_eq_false', beq_iff_eq, bne_iff_ne, beq_eq_false_iff_ne, Bool.and_eq_true, Bool.or_eq_true, Bool.and_eq_false_iff, Bool.or_eq_false_iff, ge_iff_le, gt_iff_lt, Int.not_lt, Int.not_le, ne_eq, Decidable.not_not, bne_eq_false_iff_eq] at hc6
      refine W_skip ?_
      refine tn ?_
      refine W_seq ?_
      refine W_block ?_
      refine r1 ?_
      refine s1 18 10 1 rfl rfl rfl rfl rfl rfl (by first | trivial | omega | (simp only [List.length_map, List.length_append, List.length_cons, List.length_nil] at *; omega)) ?_
      refine s1 19 18 2 rfl rfl rfl rfl rfl rfl (by first | trivial | omega | (simp only [List.length_map, List.length_append, List.length_cons, List.length_nil] at *; omega)) ?_
      refine val 19 (smpS (l.getD n default)) rfl (by first | rfl | (simp only [Nat.zero_add, Int.toNat_natCast]; rfl)) ?_
      refine s1 7 26 3 rfl rfl rfl rfl rfl rfl trivial ?_
      refine s0 34 4 rfl rfl rfl rfl rfl (by first | trivial | omega | (simp only [List.length_map, List.length_append, List.length_cons, List.length_nil] at *; omega)) ?_
      refine e1 42 rfl ?_
      refine keep [2, 5, 7, 14, 15, 16] rfl ?_
      refine r0 ?_
      refine s1 20 42 1 rfl rfl rfl rfl rfl rfl trivial ?_
      refine s1 21 50 2 rfl rfl rfl rfl rfl rfl trivial ?_
      refine s1 22 58 3 rfl rfl rfl rfl rfl rfl (by first | trivial | omega | (simp only [List.length_map, List.length_append, List.length_cons, List.length_nil] at *; omega)) ?_
      refine s1 23 66 4 rfl rfl rfl rfl rfl rfl trivial ?_
      refine s1 24 74 5 rfl rfl rfl rfl rfl rfl ⟨Nat.le_refl _, trivial, (by rw [List.length_take]; show (min n (vals l).length + 1) * 8 ≤ 140737488355328; omega), (by simp only [maxLen, List.length_take]; omega)⟩ ?_
      refine s1 5 82 6 rfl rfl rfl rfl rfl rfl trivial ?_
      refine e1 90 rfl ?_
      refine bn ?_
      refine tn ?_
      refine rowsc 74 ((vals l).take (n + 1)).length (intF ((vals l).take (n + 1))) rfl (by rw [List.length_take, List.length_take]; omega) (fun i c hi hc => (cat_one (b := (vals l).getD n 0) (by rw [vals_get (by omega)]) i c hi hc).trans (by rw [bit_take (vals l) n (by omega)])) ?_
      refine cval 5 (.sl 74 0 ((vals l).take (n + 1)).length) rfl (by rw [List.length_take, List.length_take, show min n (vals l).length + 1 = min (n + 1) (vals l).length by omega]) ?_
      refine r0 ?_
      refine sA 25 90 1 rfl rfl rfl rfl rfl rfl rfl rfl rfl (by unfold inRange; omega) ?_
      refine s1 16 98 2 rfl rfl rfl rfl rfl rfl trivial ?_
      refine e1 106 rfl ?_
      refine tn ?_
      exact again ((n + 1 : Nat)) [0, 74] (show (n + 1) ≤ l.length from (by omega)) (show l.length - (n + 1) < l.length - n from (by omega)) rfl ⟨rfl, rfl, rfl, rfl, rfl, trivial⟩ ⟨rfl, rfl, trivial⟩
    · skip
      try simp only [decide_eq_true_eq, decide_eq_false_iff_not, Bool.not_eq_true', Bool.not_eq_false', beq_iff_eq, bne_iff_ne, beq_eq_false_iff_ne, Bool.and_eq_true, Bool.or_eq_true, Bool.and_eq_false_iff, Bool.or_eq_false_iff, ge_iff_le, gt_iff_lt, Int.not_lt, Int.not_le, ne_eq, Decidable.not_not, bne_eq_false_iff_eq] at hc6
      refine W_exit ?_
      refine tx ?_
      refine tx ?_
      refine bx ?_
      refine tn ?_
      obtain rfl : n = l.length := (by omega)
      rw [show (vals l).take l.length = vals l from List.take_of_length_le (by omega)]
      refine freeze 5 1 (vals l).length rfl rfl (Nat.le_refl _) ?_
      refine r1 ?_
      refine s1 26 10 1 rfl rfl rfl rfl rfl rfl trivial ?_
      refine c1 (refOf_any (vals l) (by omega) (fun n hn => by have := fold_s hv n hn; exact ⟨by omega, by omega⟩)) [] [] 27 18 2 rfl rfl rfl rfl rfl rfl rfl rfl Tryd.func46 rfl rfl rfl rfl trivial rfl rfl ?_
      refine s0 26 3 rfl rfl rfl rfl rfl (by first | trivial | omega | (simp only [List.length_map, List.length_append, List.length_cons, List.length_nil] at *; omega)) ?_
      refine s1 3 34 4 rfl rfl rfl rfl rfl rfl trivial ?_
      refine e1 42 rfl ?_
      refine keep [2, 3] rfl ?_
      refine W_ret ?_
      exact outN (SV.tup [rollS (ofR l), SV.i (sfault l)]) (π := []) (hout := []) Tryd.results17 rfl (by trivial) (by unfold ofR; rw [if_pos hz, hz, hvl]; rfl) rfl rfl trivial ⟨rfl, rfl⟩

theorem refRollOf_bad (l : List Smp) (hin : SmpIn l) (hz : sfault l ≠ 0) : Spec Tryd.prog GC 17 [smpV l] [] (fun r ho => r = SV.tup [rollS (ofR l), SV.i (sfault l)] ∧ ho = []) := by
  refine start 28 0 Tryd.func17 rfl rfl rfl rfl ?_
  refine r1 ?_
  refine s1 2 0 1 rfl rfl rfl rfl rfl rfl trivial ?_
  refine s1 3 8 2 rfl rfl rfl rfl rfl rfl trivial ?_
  refine e1 16 rfl ?_
  refine keep [0, 2] rfl ?_
  refine W_seq ?_
  refine r1 ?_
  refine s1 8 16 1 rfl rfl rfl rfl rfl rfl trivial ?_
  refine c1 (sfault_any l hin) [] [] 9 24 2 rfl rfl rfl rfl rfl rfl rfl rfl Tryd.func32 rfl rfl rfl rfl trivial rfl rfl ?_
  refine s1 4 32 3 rfl rfl rfl rfl rfl rfl trivial ?_
  refine e1 40 rfl ?_
  refine keep [0, 2, 4] rfl ?_
  refine r1 ?_
  refine s1 10 40 1 rfl rfl rfl rfl rfl rfl trivial ?_
  refine s1 11 48 2 rfl rfl rfl rfl rfl rfl (by first | trivial | omega | (simp only [List.length_map, List.length_append, List.length_cons, List.length_nil] at *; omega)) ?_
  refine e1 56 rfl ?_
  refine keep [0, 2, 4, 11] rfl ?_
  refine q1 rfl (fun hc2 => ?_) (fun hc2 => ?_)
  · skip
    try simp only [decide_eq_true_eq, decide_eq_false_iff_not, Bool.not_eq_true', Bool.not_eq_false', beq_iff_eq, bne_iff_ne, beq_eq_false_iff_ne, Bool.and_eq_true, Bool.or_eq_true, Bool.and_eq_false_iff, Bool.or_eq_false_iff, ge_iff_le, gt_iff_lt, Int.not_lt, Int.not_le, ne_eq, Decidable.not_not, bne_eq_false_iff_eq] at hc2
    refine r1 ?_
    refine s1 12 56 1 rfl rfl rfl rfl rfl rfl trivial ?_
    refine s1 13 64 2 rfl rfl rfl rfl rfl rfl trivial ?_
    refine s0 72 3 rfl rfl rfl rfl rfl (by first | trivial | omega | (simp only [List.length_map, List.length_append, List.length_cons, List.length_nil] at *; omega)) ?_
    refine s1 3 80 4 rfl rfl rfl rfl rfl rfl trivial ?_
    refine e1 88 rfl ?_
    refine keep [2, 3] rfl ?_
    refine W_ret ?_
    refine tr ?_
    exact outN (SV.tup [rollS (ofR l), SV.i (sfault l)]) (π := []) (hout := []) Tryd.results17 rfl (by trivial) (by unfold ofR; rw [if_neg hz]; rfl) rfl rfl trivial ⟨rfl, rfl⟩
  · skip
    exact absurd hc2 (by simpa using hz)

theorem refRollOf_any (l : List Smp) (hin : SmpIn l) : Spec Tryd.prog GC 17 [smpV l] [] (fun r ho => r = SV.tup [rollS (ofR l), SV.i (sfault l)] ∧ ho = []) := by
  by_cases hz : sfault l = 0
  · exact refRollOf_ok l hin hz
  · exact refRollOf_bad l hin hz

theorem lawRO_any (l : List Smp) (hin : SmpIn l) : Spec Tryd.prog GC 5 [smpV l] [] (fun r _ => r = SV.b true) := by
  refine start 25 0 Tryd.func5 rfl rfl rfl rfl ?_
  refine r1 ?_
  refine s1 2 0 1 rfl rfl rfl rfl rfl rfl trivial ?_
  refine e1 8 rfl ?_
  refine keep [0] rfl ?_
  refine r1 ?_
  refine s1 8 8 1 rfl rfl rfl rfl rfl rfl trivial ?_
  refine c1 (rollOf_any l hin) [] [] 9 16 2 rfl rfl rfl rfl rfl rfl rfl rfl Tryd.func16 rfl rfl rfl rfl trivial rfl rfl ?_
  refine s1 7 24 3 rfl rfl rfl rfl rfl rfl trivial ?_
  refine s1 10 32 4 rfl rfl rfl rfl rfl rfl trivial ?_
  refine s1 11 40 5 rfl rfl rfl rfl rfl rfl trivial ?_
  refine s1 3 48 6 rfl rfl rfl rfl rfl rfl trivial ?_
  refine s0 56 7 rfl rfl rfl rfl rfl (by first | trivial | omega | (simp only [List.length_map, List.length_append, List.length_cons, List.length_nil] at *; omega)) ?_
  refine s1 4 64 8 rfl rfl rfl rfl rfl rfl trivial ?_
  refine e1 72 rfl ?_
  refine keep [0, 3, 4] rfl ?_
  refine r1 ?_
  refine s1 13 72 1 rfl rfl rfl rfl rfl rfl trivial ?_
  refine c1 (refRollOf_any l hin) [] [] 14 80 2 rfl rfl rfl rfl rfl rfl rfl rfl Tryd.func17 rfl rfl rfl rfl trivial rfl rfl ?_
  refine s1 12 88 3 rfl rfl rfl rfl rfl rfl trivial ?_
  refine s1 15 96 4 rfl rfl rfl rfl rfl rfl trivial ?_
  refine s1 16 104 5 rfl rfl rfl rfl rfl rfl trivial ?_
  refine s1 5 112 6 rfl rfl rfl rfl rfl rfl trivial ?_
  refine s0 120 7 rfl rfl rfl rfl rfl (by first | trivial | omega | (simp only [List.length_map, List.length_append, List.length_cons, List.length_nil] at *; omega)) ?_
  refine s1 6 128 8 rfl rfl rfl rfl rfl rfl trivial ?_
  refine e1 136 rfl ?_
  refine keep [3, 4, 5, 6] rfl ?_
  refine r1 ?_
  refine s1 17 136 1 rfl rfl rfl rfl rfl rfl (by first | trivial | omega | (simp only [List.length_map, List.length_append, List.length_cons, List.length_nil] at *; omega)) ?_
  refine s1 18 144 2 rfl rfl rfl rfl rfl rfl (by first | trivial | omega | (simp only [List.length_map, List.length_append, List.length_cons, List.length_nil] at *; omega)) ?_
  refine sEq (op := .eql) 19 152 3 rfl rfl rfl rfl rfl rfl rfl rfl rfl (by kernel_rfl) (by kernel_rfl) rfl (.inl ⟨rfl, rfl⟩) ?_
  refine s1 20 160 4 rfl rfl rfl rfl rfl rfl trivial ?_
  refine ask 20 rfl (fun hg3_20 => ?_) (fun hg3_20 => ?_)
  · skip
    try simp only [decide_eq_true_eq, decide_eq_false_iff_not, Bool.not_eq_true', Bool.not_eq_false', beq_iff_eq, bne_iff_ne, beq_eq_false_iff_ne, Bool.and_eq_true, Bool.or_eq_true, Bool.and_eq_false_iff, Bool.or_eq_false_iff, ge_iff_le, gt_iff_lt, Int.not_lt, Int.not_le, ne_eq, Decidable.not_not, bne_eq_false_iff_eq] at hg3_20
    refine g1 3 true 20 21 5 rfl rfl rfl rfl rfl ?_
    refine s1 21 168 5 rfl rfl rfl rfl rfl rfl trivial ?_
    refine g1 3 true 20 22 6 rfl rfl rfl rfl rfl ?_
    refine s1 22 176 6 rfl rfl rfl rfl rfl rfl trivial ?_
    refine g1 3 true 20 23 7 rfl rfl rfl rfl rfl ?_
    refine s1 23 184 7 rfl rfl rfl rfl rfl rfl (by first | trivial | omega | (simp only [List.length_map, List.length_append, List.length_cons, List.length_nil] at *; omega)) ?_
    refine s1 24 192 8 rfl rfl rfl rfl rfl rfl trivial ?_
    refine s1 2 200 9 rfl rfl rfl rfl rfl rfl trivial ?_
    refine e1 208 rfl ?_
    refine keep [2] rfl ?_
    refine W_ret ?_
    exact out1 2 (SV.b true) (π := []) (hout := []) Tryd.results5 rfl (by first | rfl | (simp; done) | (simp; rfl) | (simp [*]; rfl)) rfl rfl trivial rfl
  · skip
    try simp only [decide_eq_true_eq, decide_eq_false_iff_not, Bool.not_eq_true', Bool.not_eq_false', beq_iff_eq, bne_iff_ne, beq_eq_false_iff_ne, Bool.and_eq_true, Bool.or_eq_true, Bool.and_eq_false_iff, Bool.or_eq_false_iff, ge_iff_le, gt_iff_lt, Int.not_lt, Int.not_le, ne_eq, Decidable.not_not, bne_eq_false_iff_eq] at hg3_20
    all_goals (exfalso; first | (simp at hg3_20; done) | (simp at hg3_20; omega) | (simp_all; omega) | omega)

end Go.Proofs.YtiedndnegmbkiaaDoor.Nice
