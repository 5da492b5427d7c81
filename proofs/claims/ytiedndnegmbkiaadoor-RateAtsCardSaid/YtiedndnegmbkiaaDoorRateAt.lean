/- What was between two samples: the program and the document. -/
import Derived.Test.YtiedndnegmbkiaaDoorRate
namespace Go.Proofs.YtiedndnegmbkiaaDoor.Nice
open Go
set_option linter.unusedVariables false
set_option linter.unusedSimpArgs false
set_option maxRecDepth 100000
set_option maxHeartbeats 4000000

theorem u_mid {i j : Nat} (h : i + j ≤ 1000) : IntKind.i64.wrap ((IntKind.u64.wrap ((i : Int) + j)).fdiv (2 ^ (min (1 : Int).toNat 64))) = (((i + j) / 2 : Nat) : Int) := by
  rw [u_half (by omega) (by omega)]; omega
def lineN (a b : Smp) (time : Int) : Int := (b.v - a.v) * (time - a.t)
theorem line_eq (a b : Smp) (time : Int) : a.v * (b.t - time) + b.v * (time - a.t) = a.v * (b.t - a.t) + lineN a b time := by
  unfold lineN
  simp only [Int.mul_sub, Int.sub_mul]; omega
theorem mid_iff {a b : Smp} {time mid : Int} (hd : 0 < b.t - a.t) : mid * (b.t - a.t) ≤ a.v * (b.t - time) + b.v * (time - a.t) ↔ mid ≤ a.v + lineN a b time / (b.t - a.t) := by
  rw [line_eq]
  have h1 := Int.le_ediv_iff_mul_le (a := mid - a.v) (b := lineN a b time) hd
  rw [Int.sub_mul] at h1
  constructor
  · intro h; have := h1.2 (by omega); omega
  · intro h; have := h1.1 (by omega); omega
theorem lineN_bd {a b : Smp} {time : Int} (ha : (-16777216 ≤ a.t ∧ a.t ≤ 16777216) ∧ (-16777216 ≤ a.v ∧ a.v ≤ 16777216)) (hb : (-16777216 ≤ b.t ∧ b.t ≤ 16777216) ∧ (-16777216 ≤ b.v ∧ b.v ≤ 16777216)) (h1 : a.t ≤ time) (h2 : time ≤ b.t) : -1125899906842624 ≤ lineN a b time ∧ lineN a b time ≤ 1125899906842624 :=
  mul_bd (a := 33554432) (b := 33554432) (by omega) (by omega)
theorem floor_in {a b : Smp} {time : Int} (hd : 0 < b.t - a.t) (h1 : a.t ≤ time) (h2 : time ≤ b.t) : (if b.v < a.v then b.v else a.v) ≤ a.v + lineN a b time / (b.t - a.t) ∧ a.v + lineN a b time / (b.t - a.t) ≤ (if a.v < b.v then b.v else a.v) := by
  have key : ∀ (x y d : Int), 0 < d → 0 ≤ y → y ≤ d → (if x < 0 then x else 0) ≤ x * y / d ∧ x * y / d ≤ (if 0 < x then x else 0) := by
    intro x y d hd hy hyd
    rcases Int.le_total 0 x with hx | hx
    · have e1 : 0 ≤ x * y := Int.mul_nonneg hx hy
      have e2 : x * y ≤ x * d := Int.mul_le_mul_of_nonneg_left hyd hx
      have e3 : x * y / d ≤ x := by
        have := Int.ediv_le_ediv hd e2
        rwa [Int.mul_ediv_cancel _ (by omega)] at this
      have e4 := Int.ediv_nonneg e1 (Int.le_of_lt hd)
      constructor <;> split <;> omega
    · have e1 : x * y ≤ 0 := by
        have := Int.mul_nonneg (show 0 ≤ -x by omega) hy
        rw [Int.neg_mul] at this; omega
      have e2 : x * d ≤ x * y := by
        have := Int.mul_le_mul_of_nonneg_left hyd (show 0 ≤ -x by omega)
        rw [Int.neg_mul, Int.neg_mul] at this; omega
      have e3 : x ≤ x * y / d := by
        have := Int.ediv_le_ediv hd e2
        rwa [Int.mul_ediv_cancel _ (by omega)] at this
      have e4 : x * y / d ≤ 0 := by
        have := Int.ediv_le_ediv hd e1
        simpa using this
      constructor <;> split <;> omega
  have := key (b.v - a.v) (time - a.t) (b.t - a.t) hd (by omega) (by omega)
  unfold lineN
  constructor <;> split <;> split at this <;> (try split at this) <;> omega

theorem at1_any (l : List Smp) (time : Int) (n : Nat) (hn : n < l.length) : Spec Tryd.prog GC 56 [SV.i n, .ptr 0 0 0, .ptr 1 0 0] [.cells 22 1 [smpV l], .cells 3 1 [SV.i time]] (fun r ho => r = SV.b (decide (time ≤ (l.getD n default).t)) ∧ ho = [some (.cells 22 1 [smpV l]), some (.cells 3 1 [SV.i time])]) := by
  refine start 12 2 Tryd.func56 rfl rfl rfl rfl ?_
  refine r1 ?_
  refine s1 4 2 1 rfl rfl rfl rfl rfl rfl trivial ?_
  refine e1 10 rfl ?_
  refine keep [0, 1, 2] rfl ?_
  refine rd1 rfl ?_
  refine d1 5 10 1 rfl rfl rfl rfl rfl rfl (by first | trivial | omega | (simp only [List.length_map, List.length_append, List.length_cons, List.length_nil] at *; omega)) ?_
  refine d1 6 18 2 rfl rfl rfl rfl rfl rfl trivial ?_
  refine d1 7 26 3 rfl rfl rfl rfl rfl rfl (by omega) ?_
  refine d1 8 34 4 rfl rfl rfl rfl rfl rfl trivial ?_
  refine d1 9 42 5 rfl rfl rfl rfl rfl rfl (by first | trivial | omega | (simp only [List.length_map, List.length_append, List.length_cons, List.length_nil] at *; omega)) ?_
  refine val 9 (SV.i (l.getD n default).t) rfl rfl ?_
  refine d1 10 50 6 rfl rfl rfl rfl rfl rfl (by first | trivial | omega | (simp only [List.length_map, List.length_append, List.length_cons, List.length_nil] at *; omega)) ?_
  refine d1 11 58 7 rfl rfl rfl rfl rfl rfl (by first | trivial | omega | (simp only [List.length_map, List.length_append, List.length_cons, List.length_nil] at *; omega)) ?_
  refine d1 4 66 8 rfl rfl rfl rfl rfl rfl trivial ?_
  refine de1 74 rfl (by kernel_rfl) ?_
  refine keep [4] rfl ?_
  refine W_ret ?_
  exact out1 4 (SV.b (decide (time ≤ (l.getD n default).t))) (π := [0, 1]) (hout := [some (.cells 22 1 [smpV l]), some (.cells 3 1 [SV.i time])]) Tryd.results56 rfl rfl rfl rfl ⟨rfl, rfl, trivial⟩ ⟨rfl, rfl⟩

theorem search_any (l : List Smp) (hf : Fine l) (time : Int) : Spec Tryd.prog GC 55 [SV.i l.length, .fn 56 [.ptr 0 0 0, .ptr 1 0 0]] [.cells 22 1 [smpV l], .cells 3 1 [SV.i time]] (fun r ho => r = SV.i (idx l time) ∧ ho = [some (.cells 22 1 [smpV l]), some (.cells 3 1 [SV.i time])]) := by
  have hl := hf.len
  refine start 26 2 Tryd.func55 rfl rfl rfl rfl ?_
  refine r1 ?_
  refine s1 4 2 1 rfl rfl rfl rfl rfl rfl trivial ?_
  refine e1 10 rfl ?_
  refine keep [0, 1] rfl ?_
  refine r1 ?_
  refine s1 8 10 1 rfl rfl rfl rfl rfl rfl trivial ?_
  refine s1 5 18 2 rfl rfl rfl rfl rfl rfl trivial ?_
  refine s1 6 26 3 rfl rfl rfl rfl rfl rfl trivial ?_
  refine e1 34 rfl ?_
  refine keep [1, 5, 6] rfl ?_
  refine W_seq ?_
  refine W_block ?_
  refine loop (α := Nat × Nat) 2 (fun z => [(1, .fn 56 [.ptr 0 0 0, .ptr 1 0 0]), (5, SV.i (z.1)), (6, SV.i (z.2))]) (fun z => [some (.cells 22 1 [smpV l]), some (.cells 3 1 [SV.i time])]) (fun z => (z.1) ≤ (z.2) ∧ (z.2) ≤ l.length ∧ (∀ q, q < (z.1) → (l.getD q default).t < time) ∧ (∀ q, (z.2) ≤ q → q < l.length → time ≤ (l.getD q default).t)) (fun z => (z.2) - (z.1)) (((0, l.length) : Nat × Nat)) [0, 1] (fun _ => rfl) (show (0) ≤ (l.length) ∧ (l.length) ≤ l.length ∧ (∀ q, q < (0) → (l.getD q default).t < time) ∧ (∀ q, (l.length) ≤ q → q < l.length → time ≤ (l.getD q default).t) from ⟨Nat.zero_le _, Nat.le_refl _, fun q hq => by omega, fun q h1 h2 => by omega⟩) rfl ⟨rfl, rfl, rfl, trivial⟩ ⟨rfl, rfl, trivial⟩ (fun z hx => ?_)
  obtain ⟨i, j⟩ := z
  show W _ _ _ ⟨tOf [(1, .fn 56 [.ptr 0 0 0, .ptr 1 0 0]), (5, SV.i i), (6, SV.i j)], hOf [some (.cells 22 1 [smpV l]), some (.cells 3 1 [SV.i time])], 2⟩
  have hx : i ≤ j ∧ j ≤ l.length ∧ (∀ q, q < i → (l.getD q default).t < time) ∧ (∀ q, j ≤ q → q < l.length → time ≤ (l.getD q default).t) := hx
  obtain ⟨h1, h2, h3, h4⟩ := hx
  refine W_seq ?_
  refine r1 ?_
  refine s1 9 2 1 rfl rfl rfl rfl rfl rfl trivial ?_
  refine s1 10 10 2 rfl rfl rfl rfl rfl rfl trivial ?_
  refine s1 11 18 3 rfl rfl rfl rfl rfl rfl (by first | trivial | omega | (simp only [List.length_map, List.length_append, List.length_cons, List.length_nil] at *; omega)) ?_
  refine e1 26 rfl ?_
  refine keep [1, 5, 6, 11] rfl ?_
  refine q1 rfl (fun hc2 => ?_) (fun hc2 => ?_)
  · skip
    try simp only [decide_eq_true_eq, decide_eq_false_iff_not, Bool.not_eq_true', Bool.not_eq_false', beq_iff_eq, bne_iff_ne, beq_eq_false_iff_ne, Bool.and_eq_true, Bool.or_eq_true, Bool.and_eq_false_iff, Bool.or_eq_false_iff, ge_iff_le, gt_iff_lt, Int.not_lt, Int.not_le, ne_eq, Decidable.not_not, bne_eq_false_iff_eq] at hc2
    refine W_skip ?_
    refine tn ?_
    refine W_block ?_
    refine r1 ?_
    refine s1 12 26 1 rfl rfl rfl rfl rfl rfl trivial ?_
    refine s1 13 34 2 rfl rfl rfl rfl rfl rfl trivial ?_
    refine sA 14 42 3 rfl rfl rfl rfl rfl rfl rfl rfl rfl (by unfold inRange; omega) ?_
    refine s1 15 50 4 rfl rfl rfl rfl rfl rfl trivial ?_
    refine s1 16 58 5 rfl rfl rfl rfl rfl rfl (by decide) ?_
    refine s1 17 66 6 rfl rfl rfl rfl rfl rfl trivial ?_
    refine val 17 (SV.i ((((i + j) / 2) : Nat) : Int)) rfl (congrArg (fun x => SV.d (D.val (Value.int .i64 x))) (u_mid (by omega))) ?_
    refine s1 7 74 7 rfl rfl rfl rfl rfl rfl trivial ?_
    refine e1 82 rfl ?_
    refine keep [1, 5, 6, 7] rfl ?_
    refine r1 ?_
    refine s1 18 82 1 rfl rfl rfl rfl rfl rfl trivial ?_
    refine s1 19 90 2 rfl rfl rfl rfl rfl rfl trivial ?_
    refine c1 (at1_any l time ((i + j) / 2) (by omega)) [0, 1] [0, 1] 20 98 3 rfl rfl rfl rfl rfl rfl rfl rfl Tryd.func56 rfl rfl rfl rfl ⟨rfl, rfl, trivial⟩ rfl rfl ?_
    refine s1 21 106 4 rfl rfl rfl rfl rfl rfl trivial ?_
    refine e1 114 rfl ?_
    refine keep [1, 5, 6, 7, 21] rfl ?_
    refine q1 rfl (fun hc4 => ?_) (fun hc4 => ?_)
    · skip
      try simp only [decide_eq_true_eq, decide_eq_false_iff_not, Bool.not_eq_true', Bool.not_eq_false', beq_iff_eq, bne_iff_ne, beq_eq_false_iff_ne, Bool.and_eq_true, Bool.or_eq_true, Bool.and_eq_false_iff, Bool.or_eq_false_iff, ge_iff_le, gt_iff_lt, Int.not_lt, Int.not_le, ne_eq, Decidable.not_not, bne_eq_false_iff_eq] at hc4
      refine r0 ?_
      refine s1 22 114 1 rfl rfl rfl rfl rfl rfl trivial ?_
      refine sA 23 122 2 rfl rfl rfl rfl rfl rfl rfl rfl rfl (by unfold inRange; omega) ?_
      refine s1 5 130 3 rfl rfl rfl rfl rfl rfl trivial ?_
      refine e1 138 rfl ?_
      refine bn ?_
      refine tn ?_
      exact again (((((i + j) / 2) + 1, j) : Nat × Nat)) [0, 1] (show (((i + j) / 2) + 1) ≤ (j) ∧ (j) ≤ l.length ∧ (∀ q, q < (((i + j) / 2) + 1) → (l.getD q default).t < time) ∧ (∀ q, (j) ≤ q → q < l.length → time ≤ (l.getD q default).t) from ⟨by omega, h2, fun q hq => by rcases Nat.lt_or_ge q ((i + j) / 2) with h | h; (have := fine_lt hf ((i + j) / 2) q h (by omega); omega); (rw [show q = ((i + j) / 2) by omega]; omega), h4⟩) (show (j) - (((i + j) / 2) + 1) < j - i from (by omega)) rfl ⟨rfl, rfl, rfl, trivial⟩ ⟨rfl, rfl, trivial⟩
    · skip
      try simp only [decide_eq_true_eq, decide_eq_false_iff_not, Bool.not_eq_true', Bool.not_eq_false', beq_iff_eq, bne_iff_ne, beq_eq_false_iff_ne, Bool.and_eq_true, Bool.or_eq_true, Bool.and_eq_false_iff, Bool.or_eq_false_iff, ge_iff_le, gt_iff_lt, Int.not_lt, Int.not_le, ne_eq, Decidable.not_not, bne_eq_false_iff_eq] at hc4
      refine r0 ?_
      refine s1 24 114 1 rfl rfl rfl rfl rfl rfl trivial ?_
      refine s1 6 122 2 rfl rfl rfl rfl rfl rfl trivial ?_
      refine e1 130 rfl ?_
      refine bn ?_
      refine tn ?_
      exact again (((i, ((i + j) / 2)) : Nat × Nat)) [0, 1] (show (i) ≤ (((i + j) / 2)) ∧ (((i + j) / 2)) ≤ l.length ∧ (∀ q, q < (i) → (l.getD q default).t < time) ∧ (∀ q, (((i + j) / 2)) ≤ q → q < l.length → time ≤ (l.getD q default).t) from ⟨by omega, by omega, h3, fun q h5 h6 => by rcases Nat.lt_or_ge ((i + j) / 2) q with h | h; (have := fine_lt hf q ((i + j) / 2) h h6; omega); (rw [show q = ((i + j) / 2) by omega]; omega)⟩) (show (((i + j) / 2)) - (i) < j - i from (by omega)) rfl ⟨rfl, rfl, rfl, trivial⟩ ⟨rfl, rfl, trivial⟩
  · skip
    try simp only [decide_eq_true_eq, decide_eq_false_iff_not, Bool.not_eq_true', Bool.not_eq_false', beq_iff_eq, bne_iff_ne, beq_eq_false_iff_ne, Bool.and_eq_true, Bool.or_eq_true, Bool.and_eq_false_iff, Bool.or_eq_false_iff, ge_iff_le, gt_iff_lt, Int.not_lt, Int.not_le, ne_eq, Decidable.not_not, bne_eq_false_iff_eq] at hc2
    refine W_exit ?_
    refine tx ?_
    refine tx ?_
    refine bx ?_
    refine tn ?_
    refine r1 ?_
    refine s1 25 26 1 rfl rfl rfl rfl rfl rfl trivial ?_
    refine s1 4 34 2 rfl rfl rfl rfl rfl rfl trivial ?_
    refine e1 42 rfl ?_
    refine keep [4] rfl ?_
    refine W_ret ?_
    exact out1 4 (SV.i (idx l time)) (π := [0, 1]) (hout := [some (.cells 22 1 [smpV l]), some (.cells 3 1 [SV.i time])]) Tryd.results55 rfl (by rw [idx_eq (r := i) (by omega) h3 (fun h => h4 i (by omega) h)]; rfl) rfl rfl ⟨rfl, rfl, trivial⟩ ⟨rfl, rfl⟩

theorem at_any (l : List Smp) (hin : SmpIn l) (time : Int) (ht : inRange time) : Spec Tryd.prog GC 24 [smpV l, SV.i time] [] (fun r ho => r = SV.tup [SV.i (atV l time).1, SV.i (atV l time).2] ∧ ho = []) := by
  refine start 87 0 Tryd.func24 rfl rfl rfl rfl ?_
  refine r1 ?_
  refine s1 2 0 1 rfl rfl rfl rfl rfl rfl trivial ?_
  refine s1 3 8 2 rfl rfl rfl rfl rfl rfl trivial ?_
  refine s1 4 16 3 rfl rfl rfl rfl rfl rfl trivial ?_
  refine s1 5 24 4 rfl rfl rfl rfl rfl rfl trivial ?_
  refine e1 32 rfl ?_
  refine keep [2, 3] rfl ?_
  refine W_seq ?_
  refine r1 ?_
  refine s1 13 32 1 rfl rfl rfl rfl rfl rfl (by first | trivial | omega | (simp only [List.length_map, List.length_append, List.length_cons, List.length_nil] at *; omega)) ?_
  refine c1 (rfault_any l hin) [] [] 14 40 2 rfl rfl rfl rfl rfl rfl rfl rfl Tryd.func50 rfl rfl rfl rfl trivial rfl rfl ?_
  refine s1 6 48 3 rfl rfl rfl rfl rfl rfl trivial ?_
  refine e1 56 rfl ?_
  refine keep [2, 3, 6] rfl ?_
  refine r1 ?_
  refine s1 15 56 1 rfl rfl rfl rfl rfl rfl trivial ?_
  refine s1 16 64 2 rfl rfl rfl rfl rfl rfl (by first | trivial | omega | (simp only [List.length_map, List.length_append, List.length_cons, List.length_nil] at *; omega)) ?_
  refine e1 72 rfl ?_
  refine keep [2, 3, 6, 16] rfl ?_
  refine q1 rfl (fun hc2 => ?_) (fun hc2 => ?_)
  · skip
    try simp only [decide_eq_true_eq, decide_eq_false_iff_not, Bool.not_eq_true', Bool.not_eq_false', beq_iff_eq, bne_iff_ne, beq_eq_false_iff_ne, Bool.and_eq_true, Bool.or_eq_true, Bool.and_eq_false_iff, Bool.or_eq_false_iff, ge_iff_le, gt_iff_lt, Int.not_lt, Int.not_le, ne_eq, Decidable.not_not, bne_eq_false_iff_eq] at hc2
    refine r1 ?_
    refine s1 17 72 1 rfl rfl rfl rfl rfl rfl trivial ?_
    refine s1 4 80 2 rfl rfl rfl rfl rfl rfl trivial ?_
    refine s1 5 88 3 rfl rfl rfl rfl rfl rfl trivial ?_
    refine e1 96 rfl ?_
    refine keep [4, 5] rfl ?_
    refine W_ret ?_
    refine tr ?_
    exact out2 4 5 (SV.i (atV l time).1) (SV.i (atV l time).2) (π := []) (hout := []) Tryd.results24 rfl rfl (by unfold atV; rw [if_neg hc2]; rfl) (by unfold atV; rw [if_neg hc2]; rfl) rfl rfl trivial ⟨rfl, rfl⟩
  · skip
    try simp only [decide_eq_true_eq, decide_eq_false_iff_not, Bool.not_eq_true', Bool.not_eq_false', beq_iff_eq, bne_iff_ne, beq_eq_false_iff_ne, Bool.and_eq_true, Bool.or_eq_true, Bool.and_eq_false_iff, Bool.or_eq_false_iff, ge_iff_le, gt_iff_lt, Int.not_lt, Int.not_le, ne_eq, Decidable.not_not, bne_eq_false_iff_eq] at hc2
    have hf := fine_of hc2
    have hl := hf.len
    have hxl := idx_le l time
    refine W_skip ?_
    refine tn ?_
    refine r1 ?_
    refine s1 18 72 1 rfl rfl rfl rfl rfl rfl (by first | trivial | omega | (simp only [List.length_map, List.length_append, List.length_cons, List.length_nil] at *; omega)) ?_
    refine s1 19 80 2 rfl rfl rfl rfl rfl rfl (by first | trivial | omega | (simp only [List.length_map, List.length_append, List.length_cons, List.length_nil] at *; omega)) ?_
    refine s1 20 88 3 rfl rfl rfl rfl rfl rfl trivial ?_
    refine c1 (search_any l hf time) [0, 8] [0, 8] 21 96 4 rfl rfl rfl rfl rfl rfl rfl rfl Tryd.func55 rfl rfl rfl rfl ⟨rfl, rfl, trivial⟩ rfl rfl ?_
    refine s1 7 104 5 rfl rfl rfl rfl rfl rfl trivial ?_
    refine e1 112 rfl ?_
    refine keep [2, 3, 7] rfl ?_
    refine W_seq ?_
    refine W_block ?_
    refine rd1 rfl ?_
    refine d1 23 112 1 rfl rfl rfl rfl rfl rfl trivial ?_
    refine d1 24 120 2 rfl rfl rfl rfl rfl rfl (by first | trivial | omega | (simp only [List.length_map, List.length_append, List.length_cons, List.length_nil] at *; omega)) ?_
    refine d1 25 128 3 rfl rfl rfl rfl rfl rfl (by first | trivial | omega | (simp only [List.length_map, List.length_append, List.length_cons, List.length_nil] at *; omega)) ?_
    refine d1 26 136 4 rfl rfl rfl rfl rfl rfl (by first | trivial | omega | (simp only [List.length_map, List.length_append, List.length_cons, List.length_nil] at *; omega)) ?_
    refine d1 27 144 5 rfl rfl rfl rfl rfl rfl trivial ?_
    refine ask 27 rfl (fun hg5_27 => ?_) (fun hg5_27 => ?_)
    · skip
      try simp only [decide_eq_true_eq, decide_eq_false_iff_not, Bool.not_eq_true', Bool.not_eq_false', beq_iff_eq, bne_iff_ne, beq_eq_false_iff_ne, Bool.and_eq_true, Bool.or_eq_true, Bool.and_eq_false_iff, Bool.or_eq_false_iff, ge_iff_le, gt_iff_lt, Int.not_lt, Int.not_le, ne_eq, Decidable.not_not, bne_eq_false_iff_eq] at hg5_27
      refine g1 4 true 27 28 6 rfl rfl rfl rfl rfl ?_
      refine d1 28 152 6 rfl rfl rfl rfl rfl rfl (by first | trivial | omega | (simp only [List.length_map, List.length_append, List.length_cons, List.length_nil] at *; omega)) ?_
      refine g1 4 true 27 29 7 rfl rfl rfl rfl rfl ?_
      refine d1 29 160 7 rfl rfl rfl rfl rfl rfl trivial ?_
      refine g1 4 true 27 30 8 rfl rfl rfl rfl rfl ?_
      refine d1 30 168 8 rfl rfl rfl rfl rfl rfl (by omega) ?_
      refine g1 4 true 27 31 9 rfl rfl rfl rfl rfl ?_
      refine d1 31 176 9 rfl rfl rfl rfl rfl rfl trivial ?_
      refine g1 4 true 27 32 10 rfl rfl rfl rfl rfl ?_
      refine d1 32 184 10 rfl rfl rfl rfl rfl rfl (by first | trivial | omega | (simp only [List.length_map, List.length_append, List.length_cons, List.length_nil] at *; omega)) ?_
      refine val 32 (SV.i (l.getD (idx l time) default).t) rfl rfl ?_
      refine g1 4 true 27 33 11 rfl rfl rfl rfl rfl ?_
      refine d1 33 192 11 rfl rfl rfl rfl rfl rfl (by first | trivial | omega | (simp only [List.length_map, List.length_append, List.length_cons, List.length_nil] at *; omega)) ?_
      refine g1 4 true 27 34 12 rfl rfl rfl rfl rfl ?_
      refine d1 34 200 12 rfl rfl rfl rfl rfl rfl (by first | trivial | omega | (simp only [List.length_map, List.length_append, List.length_cons, List.length_nil] at *; omega)) ?_
      refine d1 35 208 13 rfl rfl rfl rfl rfl rfl trivial ?_
      refine d1 22 216 14 rfl rfl rfl rfl rfl rfl trivial ?_
      refine de1 224 rfl (by kernel_rfl) ?_
      refine keep [2, 3, 7, 22] rfl ?_
      refine q1 rfl (fun hc5 => ?_) (fun hc5 => ?_)
      · skip
        try simp only [decide_eq_true_eq, decide_eq_false_iff_not, Bool.not_eq_true', Bool.not_eq_false', beq_iff_eq, bne_iff_ne, beq_eq_false_iff_ne, Bool.and_eq_true, Bool.or_eq_true, Bool.and_eq_false_iff, Bool.or_eq_false_iff, ge_iff_le, gt_iff_lt, Int.not_lt, Int.not_le, ne_eq, Decidable.not_not, bne_eq_false_iff_eq] at hc5
        refine r1 ?_
        refine s1 36 224 1 rfl rfl rfl rfl rfl rfl (by first | trivial | omega | (simp only [List.length_map, List.length_append, List.length_cons, List.length_nil] at *; omega)) ?_
        refine s1 37 232 2 rfl rfl rfl rfl rfl rfl trivial ?_
        refine s1 38 240 3 rfl rfl rfl rfl rfl rfl (by omega) ?_
        refine s1 39 248 4 rfl rfl rfl rfl rfl rfl trivial ?_
        refine s1 40 256 5 rfl rfl rfl rfl rfl rfl (by first | trivial | omega | (simp only [List.length_map, List.length_append, List.length_cons, List.length_nil] at *; omega)) ?_
        refine val 40 (SV.i (l.getD (idx l time) default).v) rfl rfl ?_
        refine s1 4 264 6 rfl rfl rfl rfl rfl rfl trivial ?_
        refine s1 5 272 7 rfl rfl rfl rfl rfl rfl trivial ?_
        refine e1 280 rfl ?_
        refine keep [4, 5] rfl ?_
        refine W_ret ?_
        refine br ?_
        refine tr ?_
        exact out2 4 5 (SV.i (atV l time).1) (SV.i (atV l time).2) (π := []) (hout := []) Tryd.results24 rfl rfl (by unfold atV; rw [if_pos hc2, if_pos ⟨by omega, by first | exact hc5.2 | omega⟩]; rfl) (by unfold atV; rw [if_pos hc2, if_pos ⟨by omega, by first | exact hc5.2 | omega⟩]; rfl) rfl rfl trivial ⟨rfl, rfl⟩
      · skip
        try simp only [decide_eq_true_eq, decide_eq_false_iff_not, Bool.not_eq_true', Bool.not_eq_false', beq_iff_eq, bne_iff_ne, beq_eq_false_iff_ne, Bool.and_eq_true, Bool.or_eq_true, Bool.and_eq_false_iff, Bool.or_eq_false_iff, ge_iff_le, gt_iff_lt, Int.not_lt, Int.not_le, ne_eq, Decidable.not_not, bne_eq_false_iff_eq] at hc5
        have hx5 : ¬ (idx l time < l.length ∧ (l.getD (idx l time) default).t = time) := (by omega)
        refine r1 ?_
        refine s1 42 224 1 rfl rfl rfl rfl rfl rfl trivial ?_
        refine s1 43 232 2 rfl rfl rfl rfl rfl rfl (by first | trivial | omega | (simp only [List.length_map, List.length_append, List.length_cons, List.length_nil] at *; omega)) ?_
        refine s1 44 240 3 rfl rfl rfl rfl rfl rfl trivial ?_
        refine ask 44 rfl (fun hg7_44 => ?_) (fun hg7_44 => ?_)
        · skip
          try simp only [decide_eq_true_eq, decide_eq_false_iff_not, Bool.not_eq_true', Bool.not_eq_false', beq_iff_eq, bne_iff_ne, beq_eq_false_iff_ne, Bool.and_eq_true, Bool.or_eq_true, Bool.and_eq_false_iff, Bool.or_eq_false_iff, ge_iff_le, gt_iff_lt, Int.not_lt, Int.not_le, ne_eq, Decidable.not_not, bne_eq_false_iff_eq] at hg7_44
          refine g0 2 false 44 45 4 rfl rfl rfl rfl rfl rfl ?_
          refine g0 2 false 44 46 5 rfl rfl rfl rfl rfl rfl ?_
          refine g0 2 false 44 47 6 rfl rfl rfl rfl rfl rfl ?_
          refine g0 2 false 44 48 7 rfl rfl rfl rfl rfl rfl ?_
          refine s1 49 280 8 rfl rfl rfl rfl rfl rfl trivial ?_
          refine s1 41 288 9 rfl rfl rfl rfl rfl rfl trivial ?_
          refine e1 296 rfl ?_
          refine keep [2, 3, 7, 41] rfl ?_
          refine q1 rfl (fun hc7 => ?_) (fun hc7 => ?_)
          · skip
            try simp only [decide_eq_true_eq, decide_eq_false_iff_not, Bool.not_eq_true', Bool.not_eq_false', beq_iff_eq, bne_iff_ne, beq_eq_false_iff_ne, Bool.and_eq_true, Bool.or_eq_true, Bool.and_eq_false_iff, Bool.or_eq_false_iff, ge_iff_le, gt_iff_lt, Int.not_lt, Int.not_le, ne_eq, Decidable.not_not, bne_eq_false_iff_eq] at hc7
            refine r1 ?_
            refine s1 4 296 1 rfl rfl rfl rfl rfl rfl trivial ?_
            refine s1 5 304 2 rfl rfl rfl rfl rfl rfl trivial ?_
            refine e1 312 rfl ?_
            refine keep [4, 5] rfl ?_
            refine W_ret ?_
            refine br ?_
            refine tr ?_
            exact out2 4 5 (SV.i (atV l time).1) (SV.i (atV l time).2) (π := []) (hout := []) Tryd.results24 rfl rfl (by unfold atV; rw [if_pos hc2, if_neg hx5, if_pos (by omega)]; rfl) (by unfold atV; rw [if_pos hc2, if_neg hx5, if_pos (by omega)]; rfl) rfl rfl trivial ⟨rfl, rfl⟩
          · skip
            exact absurd hc7 (by decide)
        · skip
          try simp only [decide_eq_true_eq, decide_eq_false_iff_not, Bool.not_eq_true', Bool.not_eq_false', beq_iff_eq, bne_iff_ne, beq_eq_false_iff_ne, Bool.and_eq_true, Bool.or_eq_true, Bool.and_eq_false_iff, Bool.or_eq_false_iff, ge_iff_le, gt_iff_lt, Int.not_lt, Int.not_le, ne_eq, Decidable.not_not, bne_eq_false_iff_eq] at hg7_44
          refine g1 2 false 44 45 4 rfl rfl rfl rfl rfl ?_
          refine s1 45 248 4 rfl rfl rfl rfl rfl rfl trivial ?_
          refine g1 2 false 44 46 5 rfl rfl rfl rfl rfl ?_
          refine s1 46 256 5 rfl rfl rfl rfl rfl rfl (by first | trivial | omega | (simp only [List.length_map, List.length_append, List.length_cons, List.length_nil] at *; omega)) ?_
          refine g1 2 false 44 47 6 rfl rfl rfl rfl rfl ?_
          refine s1 47 264 6 rfl rfl rfl rfl rfl rfl (by first | trivial | omega | (simp only [List.length_map, List.length_append, List.length_cons, List.length_nil] at *; omega)) ?_
          refine g1 2 false 44 48 7 rfl rfl rfl rfl rfl ?_
          refine s1 48 272 7 rfl rfl rfl rfl rfl rfl (by first | trivial | omega | (simp only [List.length_map, List.length_append, List.length_cons, List.length_nil] at *; omega)) ?_
          refine s1 49 280 8 rfl rfl rfl rfl rfl rfl trivial ?_
          refine s1 41 288 9 rfl rfl rfl rfl rfl rfl trivial ?_
          refine e1 296 rfl ?_
          refine keep [2, 3, 7, 41] rfl ?_
          refine q1 rfl (fun hc7 => ?_) (fun hc7 => ?_)
          · skip
            try simp only [decide_eq_true_eq, decide_eq_false_iff_not, Bool.not_eq_true', Bool.not_eq_false', beq_iff_eq, bne_iff_ne, beq_eq_false_iff_ne, Bool.and_eq_true, Bool.or_eq_true, Bool.and_eq_false_iff, Bool.or_eq_false_iff, ge_iff_le, gt_iff_lt, Int.not_lt, Int.not_le, ne_eq, Decidable.not_not, bne_eq_false_iff_eq] at hc7
            refine r1 ?_
            refine s1 4 296 1 rfl rfl rfl rfl rfl rfl trivial ?_
            refine s1 5 304 2 rfl rfl rfl rfl rfl rfl trivial ?_
            refine e1 312 rfl ?_
            refine keep [4, 5] rfl ?_
            refine W_ret ?_
            refine br ?_
            refine tr ?_
            exact out2 4 5 (SV.i (atV l time).1) (SV.i (atV l time).2) (π := []) (hout := []) Tryd.results24 rfl rfl (by unfold atV; rw [if_pos hc2, if_neg hx5, if_pos (by omega)]; rfl) (by unfold atV; rw [if_pos hc2, if_neg hx5, if_pos (by omega)]; rfl) rfl rfl trivial ⟨rfl, rfl⟩
          · skip
            try simp only [decide_eq_true_eq, decide_eq_false_iff_not, Bool.not_eq_true', Bool.not_eq_false', beq_iff_eq, bne_iff_ne, beq_eq_false_iff_ne, Bool.and_eq_true, Bool.or_eq_true, Bool.and_eq_false_iff, Bool.or_eq_false_iff, ge_iff_le, gt_iff_lt, Int.not_lt, Int.not_le, ne_eq, Decidable.not_not, bne_eq_false_iff_eq] at hc7
            have na := hf.near ((idx l time) - 1) (by omega)
            have nb := hf.near (idx l time) (by omega)
            have hD : 0 < ((l.getD (idx l time) default).t - (l.getD ((idx l time) - 1) default).t) := (by have := hf.asc (idx l time) (by omega) (by omega); omega)
            have ht1 := idx_below (l := l) (time := time) (k := (idx l time) - 1) (by omega)
            have ht2 := idx_at (l := l) (time := time) (by omega)
            have hN := lineN_bd na nb (by omega) ht2
            refine W_skip ?_
            refine bn ?_
            refine tn ?_
            refine rd1 rfl ?_
            refine d1 50 296 1 rfl rfl rfl rfl rfl rfl (by first | trivial | omega | (simp only [List.length_map, List.length_append, List.length_cons, List.length_nil] at *; omega)) ?_
            refine d1 51 304 2 rfl rfl rfl rfl rfl rfl trivial ?_
            refine dA 52 312 3 rfl rfl rfl rfl rfl rfl rfl rfl rfl (by unfold inRange; omega) ?_
            refine d1 53 320 4 rfl rfl rfl rfl rfl rfl (by omega) ?_
            refine d1 54 328 5 rfl rfl rfl rfl rfl rfl (by first | trivial | omega | (simp only [List.length_map, List.length_append, List.length_cons, List.length_nil] at *; omega)) ?_
            refine val 54 (smpS (l.getD ((idx l time) - 1) default)) rfl (by rw [show (((idx l time) : Int) - 1).toNat = (idx l time) - 1 by omega]; rfl) ?_
            refine d1 55 336 6 rfl rfl rfl rfl rfl rfl (by first | trivial | omega | (simp only [List.length_map, List.length_append, List.length_cons, List.length_nil] at *; omega)) ?_
            refine d1 56 344 7 rfl rfl rfl rfl rfl rfl trivial ?_
            refine d1 57 352 8 rfl rfl rfl rfl rfl rfl (by omega) ?_
            refine d1 58 360 9 rfl rfl rfl rfl rfl rfl (by first | trivial | omega | (simp only [List.length_map, List.length_append, List.length_cons, List.length_nil] at *; omega)) ?_
            refine val 58 (smpS (l.getD (idx l time) default)) rfl rfl ?_
            refine d1 8 368 10 rfl rfl rfl rfl rfl rfl trivial ?_
            refine d1 9 376 11 rfl rfl rfl rfl rfl rfl trivial ?_
            refine d0 384 12 rfl rfl rfl rfl rfl (by first | trivial | omega | (simp only [List.length_map, List.length_append, List.length_cons, List.length_nil] at *; omega)) ?_
            refine d0 392 13 rfl rfl rfl rfl rfl (by first | trivial | omega | (simp only [List.length_map, List.length_append, List.length_cons, List.length_nil] at *; omega)) ?_
            refine de1 400 rfl (by kernel_rfl) ?_
            refine keep [3, 8, 9] rfl ?_
            refine rd1 rfl ?_
            refine d1 59 400 1 rfl rfl rfl rfl rfl rfl trivial ?_
            refine d1 60 408 2 rfl rfl rfl rfl rfl rfl (by first | trivial | omega | (simp only [List.length_map, List.length_append, List.length_cons, List.length_nil] at *; omega)) ?_
            refine d1 61 416 3 rfl rfl rfl rfl rfl rfl trivial ?_
            refine d1 62 424 4 rfl rfl rfl rfl rfl rfl (by first | trivial | omega | (simp only [List.length_map, List.length_append, List.length_cons, List.length_nil] at *; omega)) ?_
            refine dA 63 432 5 rfl rfl rfl rfl rfl rfl rfl rfl rfl (by unfold inRange; omega) ?_
            refine d1 64 440 6 rfl rfl rfl rfl rfl rfl (by first | trivial | omega | (simp only [List.length_map, List.length_append, List.length_cons, List.length_nil] at *; omega)) ?_
            refine d1 65 448 7 rfl rfl rfl rfl rfl rfl trivial ?_
            refine d1 66 456 8 rfl rfl rfl rfl rfl rfl (by first | trivial | omega | (simp only [List.length_map, List.length_append, List.length_cons, List.length_nil] at *; omega)) ?_
            refine dA 67 464 9 rfl rfl rfl rfl rfl rfl rfl rfl rfl (by unfold inRange; omega) ?_
            refine dA 68 472 10 rfl rfl rfl rfl rfl rfl rfl rfl rfl (by have := hN; unfold lineN at this; exact ⟨by omega, by omega⟩) ?_
            refine val 68 (SV.i (lineN (l.getD ((idx l time) - 1) default) (l.getD (idx l time) default) time)) rfl rfl ?_
            refine d1 69 480 11 rfl rfl rfl rfl rfl rfl trivial ?_
            refine d1 70 488 12 rfl rfl rfl rfl rfl rfl (by first | trivial | omega | (simp only [List.length_map, List.length_append, List.length_cons, List.length_nil] at *; omega)) ?_
            refine d1 71 496 13 rfl rfl rfl rfl rfl rfl trivial ?_
            refine d1 72 504 14 rfl rfl rfl rfl rfl rfl (by first | trivial | omega | (simp only [List.length_map, List.length_append, List.length_cons, List.length_nil] at *; omega)) ?_
            refine dA 73 512 15 rfl rfl rfl rfl rfl rfl rfl rfl rfl (by unfold inRange; omega) ?_
            refine d1 10 520 16 rfl rfl rfl rfl rfl rfl trivial ?_
            refine d1 11 528 17 rfl rfl rfl rfl rfl rfl trivial ?_
            refine de1 536 rfl (by kernel_rfl) ?_
            refine keep [8, 10, 11] rfl ?_
            refine r1 ?_
            refine s1 74 536 1 rfl rfl rfl rfl rfl rfl trivial ?_
            refine s1 75 544 2 rfl rfl rfl rfl rfl rfl trivial ?_
            refine s1 76 552 3 rfl rfl rfl rfl rfl rfl (by show _ ≠ _; omega) ?_
            refine val 76 (SV.i ((lineN (l.getD ((idx l time) - 1) default) (l.getD (idx l time) default) time).tdiv ((l.getD (idx l time) default).t - (l.getD ((idx l time) - 1) default).t))) rfl (congrArg (fun x => SV.d (D.val (Value.int .i64 x))) (tquo_in hD hN)) ?_
            refine s1 12 560 4 rfl rfl rfl rfl rfl rfl trivial ?_
            refine e1 568 rfl ?_
            refine keep [8, 10, 11, 12] rfl ?_
            refine W_seq ?_
            refine r1 ?_
            refine s1 77 568 1 rfl rfl rfl rfl rfl rfl trivial ?_
            refine s1 78 576 2 rfl rfl rfl rfl rfl rfl trivial ?_
            refine s1 79 584 3 rfl rfl rfl rfl rfl rfl (by show _ ≠ _; omega) ?_
            refine s1 80 592 4 rfl rfl rfl rfl rfl rfl (by first | trivial | omega | (simp only [List.length_map, List.length_append, List.length_cons, List.length_nil] at *; omega)) ?_
            refine e1 600 rfl ?_
            refine keep [8, 12, 80] rfl ?_
            refine q1 rfl (fun hc12 => ?_) (fun hc12 => ?_)
            · skip
              try simp only [decide_eq_true_eq, decide_eq_false_iff_not, Bool.not_eq_true', Bool.not_eq_false', beq_iff_eq, bne_iff_ne, beq_eq_false_iff_ne, Bool.and_eq_true, Bool.or_eq_true, Bool.and_eq_false_iff, Bool.or_eq_false_iff, ge_iff_le, gt_iff_lt, Int.not_lt, Int.not_le, ne_eq, Decidable.not_not, bne_eq_false_iff_eq] at hc12
              refine r0 ?_
              refine s1 81 600 1 rfl rfl rfl rfl rfl rfl trivial ?_
              refine sA 82 608 2 rfl rfl rfl rfl rfl rfl rfl rfl rfl (by have := quo_bd hD hN; have := floor_of hD hc12; unfold inRange; omega) ?_
              refine s1 12 616 3 rfl rfl rfl rfl rfl rfl trivial ?_
              refine e1 624 rfl ?_
              refine tn ?_
              refine r1 ?_
              refine s1 83 624 1 rfl rfl rfl rfl rfl rfl trivial ?_
              refine s1 84 632 2 rfl rfl rfl rfl rfl rfl (by first | trivial | omega | (simp only [List.length_map, List.length_append, List.length_cons, List.length_nil] at *; omega)) ?_
              refine s1 85 640 3 rfl rfl rfl rfl rfl rfl trivial ?_
              refine sA 86 648 4 rfl rfl rfl rfl rfl rfl rfl rfl rfl (by have := quo_bd hD hN; first | (have := floor_of hD hc12; unfold inRange; omega) | (have := floor_of' hD hc12; unfold inRange; omega)) ?_
              refine s1 4 656 5 rfl rfl rfl rfl rfl rfl trivial ?_
              refine s1 5 664 6 rfl rfl rfl rfl rfl rfl trivial ?_
              refine e1 672 rfl ?_
              refine keep [4, 5] rfl ?_
              refine W_ret ?_
              exact out2 4 5 (SV.i (atV l time).1) (SV.i (atV l time).2) (π := []) (hout := []) Tryd.results24 rfl rfl (by unfold atV; rw [if_pos hc2, if_neg hx5, if_neg (by omega)]; show SV.i _ = SV.i _; refine congrArg SV.i ?_; first | (rw [floor_of hD hc12]; rfl) | (rw [floor_of' hD hc12]; rfl)) (by unfold atV; rw [if_pos hc2, if_neg hx5, if_neg (by omega)]; rfl) rfl rfl trivial ⟨rfl, rfl⟩
            · skip
              try simp only [decide_eq_true_eq, decide_eq_false_iff_not, Bool.not_eq_true', Bool.not_eq_false', beq_iff_eq, bne_iff_ne, beq_eq_false_iff_ne, Bool.and_eq_true, Bool.or_eq_true, Bool.and_eq_false_iff, Bool.or_eq_false_iff, ge_iff_le, gt_iff_lt, Int.not_lt, Int.not_le, ne_eq, Decidable.not_not, bne_eq_false_iff_eq] at hc12
              refine W_skip ?_
              refine tn ?_
              refine r1 ?_
              refine s1 83 600 1 rfl rfl rfl rfl rfl rfl trivial ?_
              refine s1 84 608 2 rfl rfl rfl rfl rfl rfl (by first | trivial | omega | (simp only [List.length_map, List.length_append, List.length_cons, List.length_nil] at *; omega)) ?_
              refine s1 85 616 3 rfl rfl rfl rfl rfl rfl trivial ?_
              refine sA 86 624 4 rfl rfl rfl rfl rfl rfl rfl rfl rfl (by have := quo_bd hD hN; first | (have := floor_of hD hc12; unfold inRange; omega) | (have := floor_of' hD hc12; unfold inRange; omega)) ?_
              refine s1 4 632 5 rfl rfl rfl rfl rfl rfl trivial ?_
              refine s1 5 640 6 rfl rfl rfl rfl rfl rfl trivial ?_
              refine e1 648 rfl ?_
              refine keep [4, 5] rfl ?_
              refine W_ret ?_
              exact out2 4 5 (SV.i (atV l time).1) (SV.i (atV l time).2) (π := []) (hout := []) Tryd.results24 rfl rfl (by unfold atV; rw [if_pos hc2, if_neg hx5, if_neg (by omega)]; show SV.i _ = SV.i _; refine congrArg SV.i ?_; first | (rw [floor_of hD hc12]; rfl) | (rw [floor_of' hD hc12]; rfl)) (by unfold atV; rw [if_pos hc2, if_neg hx5, if_neg (by omega)]; rfl) rfl rfl trivial ⟨rfl, rfl⟩
    · skip
      try simp only [decide_eq_true_eq, decide_eq_false_iff_not, Bool.not_eq_true', Bool.not_eq_false', beq_iff_eq, bne_iff_ne, beq_eq_false_iff_ne, Bool.and_eq_true, Bool.or_eq_true, Bool.and_eq_false_iff, Bool.or_eq_false_iff, ge_iff_le, gt_iff_lt, Int.not_lt, Int.not_le, ne_eq, Decidable.not_not, bne_eq_false_iff_eq] at hg5_27
      refine g0 4 true 27 28 6 rfl rfl rfl rfl rfl rfl ?_
      refine g0 4 true 27 29 7 rfl rfl rfl rfl rfl rfl ?_
      refine g0 4 true 27 30 8 rfl rfl rfl rfl rfl rfl ?_
      refine g0 4 true 27 31 9 rfl rfl rfl rfl rfl rfl ?_
      refine g0 4 true 27 32 10 rfl rfl rfl rfl rfl rfl ?_
      refine g0 4 true 27 33 11 rfl rfl rfl rfl rfl rfl ?_
      refine g0 4 true 27 34 12 rfl rfl rfl rfl rfl rfl ?_
      refine d1 35 208 13 rfl rfl rfl rfl rfl rfl trivial ?_
      refine d1 22 216 14 rfl rfl rfl rfl rfl rfl trivial ?_
      refine de1 224 rfl (by kernel_rfl) ?_
      refine keep [2, 3, 7, 22] rfl ?_
      refine q1 rfl (fun hc5 => ?_) (fun hc5 => ?_)
      · skip
        exact absurd hc5 (by decide)
      · skip
        try simp only [decide_eq_true_eq, decide_eq_false_iff_not, Bool.not_eq_true', Bool.not_eq_false', beq_iff_eq, bne_iff_ne, beq_eq_false_iff_ne, Bool.and_eq_true, Bool.or_eq_true, Bool.and_eq_false_iff, Bool.or_eq_false_iff, ge_iff_le, gt_iff_lt, Int.not_lt, Int.not_le, ne_eq, Decidable.not_not, bne_eq_false_iff_eq] at hc5
        have hx5 : ¬ (idx l time < l.length ∧ (l.getD (idx l time) default).t = time) := (by omega)
        refine r1 ?_
        refine s1 42 224 1 rfl rfl rfl rfl rfl rfl trivial ?_
        refine s1 43 232 2 rfl rfl rfl rfl rfl rfl (by first | trivial | omega | (simp only [List.length_map, List.length_append, List.length_cons, List.length_nil] at *; omega)) ?_
        refine s1 44 240 3 rfl rfl rfl rfl rfl rfl trivial ?_
        refine ask 44 rfl (fun hg7_44 => ?_) (fun hg7_44 => ?_)
        · skip
          try simp only [decide_eq_true_eq, decide_eq_false_iff_not, Bool.not_eq_true', Bool.not_eq_false', beq_iff_eq, bne_iff_ne, beq_eq_false_iff_ne, Bool.and_eq_true, Bool.or_eq_true, Bool.and_eq_false_iff, Bool.or_eq_false_iff, ge_iff_le, gt_iff_lt, Int.not_lt, Int.not_le, ne_eq, Decidable.not_not, bne_eq_false_iff_eq] at hg7_44
          refine g0 2 false 44 45 4 rfl rfl rfl rfl rfl rfl ?_
          refine g0 2 false 44 46 5 rfl rfl rfl rfl rfl rfl ?_
          refine g0 2 false 44 47 6 rfl rfl rfl rfl rfl rfl ?_
          refine g0 2 false 44 48 7 rfl rfl rfl rfl rfl rfl ?_
          refine s1 49 280 8 rfl rfl rfl rfl rfl rfl trivial ?_
          refine s1 41 288 9 rfl rfl rfl rfl rfl rfl trivial ?_
          refine e1 296 rfl ?_
          refine keep [2, 3, 7, 41] rfl ?_
          refine q1 rfl (fun hc7 => ?_) (fun hc7 => ?_)
          · skip
            try simp only [decide_eq_true_eq, decide_eq_false_iff_not, Bool.not_eq_true', Bool.not_eq_false', beq_iff_eq, bne_iff_ne, beq_eq_false_iff_ne, Bool.and_eq_true, Bool.or_eq_true, Bool.and_eq_false_iff, Bool.or_eq_false_iff, ge_iff_le, gt_iff_lt, Int.not_lt, Int.not_le, ne_eq, Decidable.not_not, bne_eq_false_iff_eq] at hc7
            refine r1 ?_
            refine s1 4 296 1 rfl rfl rfl rfl rfl rfl trivial ?_
            refine s1 5 304 2 rfl rfl rfl rfl rfl rfl trivial ?_
            refine e1 312 rfl ?_
            refine keep [4, 5] rfl ?_
            refine W_ret ?_
            refine br ?_
            refine tr ?_
            exact out2 4 5 (SV.i (atV l time).1) (SV.i (atV l time).2) (π := []) (hout := []) Tryd.results24 rfl rfl (by unfold atV; rw [if_pos hc2, if_neg hx5, if_pos (by omega)]; rfl) (by unfold atV; rw [if_pos hc2, if_neg hx5, if_pos (by omega)]; rfl) rfl rfl trivial ⟨rfl, rfl⟩
          · skip
            exact absurd hc7 (by decide)
        · skip
          try simp only [decide_eq_true_eq, decide_eq_false_iff_not, Bool.not_eq_true', Bool.not_eq_false', beq_iff_eq, bne_iff_ne, beq_eq_false_iff_ne, Bool.and_eq_true, Bool.or_eq_true, Bool.and_eq_false_iff, Bool.or_eq_false_iff, ge_iff_le, gt_iff_lt, Int.not_lt, Int.not_le, ne_eq, Decidable.not_not, bne_eq_false_iff_eq] at hg7_44
          refine g1 2 false 44 45 4 rfl rfl rfl rfl rfl ?_
          refine s1 45 248 4 rfl rfl rfl rfl rfl rfl trivial ?_
          refine g1 2 false 44 46 5 rfl rfl rfl rfl rfl ?_
          refine s1 46 256 5 rfl rfl rfl rfl rfl rfl (by first | trivial | omega | (simp only [List.length_map, List.length_append, List.length_cons, List.length_nil] at *; omega)) ?_
          refine g1 2 false 44 47 6 rfl rfl rfl rfl rfl ?_
          refine s1 47 264 6 rfl rfl rfl rfl rfl rfl (by first | trivial | omega | (simp only [List.length_map, List.length_append, List.length_cons, List.length_nil] at *; omega)) ?_
          refine g1 2 false 44 48 7 rfl rfl rfl rfl rfl ?_
          refine s1 48 272 7 rfl rfl rfl rfl rfl rfl (by first | trivial | omega | (simp only [List.length_map, List.length_append, List.length_cons, List.length_nil] at *; omega)) ?_
          refine s1 49 280 8 rfl rfl rfl rfl rfl rfl trivial ?_
          refine s1 41 288 9 rfl rfl rfl rfl rfl rfl trivial ?_
          refine e1 296 rfl ?_
          refine keep [2, 3, 7, 41] rfl ?_
          refine q1 rfl (fun hc7 => ?_) (fun hc7 => ?_)
          · skip
            try simp only [decide_eq_true_eq, decide_eq_false_iff_not, Bool.not_eq_true', Bool.not_eq_false', beq_iff_eq, bne_iff_ne, beq_eq_false_iff_ne, Bool.and_eq_true, Bool.or_eq_true, Bool.and_eq_false_iff, Bool.or_eq_false_iff, ge_iff_le, gt_iff_lt, Int.not_lt, Int.not_le, ne_eq, Decidable.not_not, bne_eq_false_iff_eq] at hc7
            refine r1 ?_
            refine s1 4 296 1 rfl rfl rfl rfl rfl rfl trivial ?_
            refine s1 5 304 2 rfl rfl rfl rfl rfl rfl trivial ?_
            refine e1 312 rfl ?_
            refine keep [4, 5] rfl ?_
            refine W_ret ?_
            refine br ?_
            refine tr ?_
            exact out2 4 5 (SV.i (atV l time).1) (SV.i (atV l time).2) (π := []) (hout := []) Tryd.results24 rfl rfl (by unfold atV; rw [if_pos hc2, if_neg hx5, if_pos (by omega)]; rfl) (by unfold atV; rw [if_pos hc2, if_neg hx5, if_pos (by omega)]; rfl) rfl rfl trivial ⟨rfl, rfl⟩
          · skip
            try simp only [decide_eq_true_eq, decide_eq_false_iff_not, Bool.not_eq_true', Bool.not_eq_false', beq_iff_eq, bne_iff_ne, beq_eq_false_iff_ne, Bool.and_eq_true, Bool.or_eq_true, Bool.and_eq_false_iff, Bool.or_eq_false_iff, ge_iff_le, gt_iff_lt, Int.not_lt, Int.not_le, ne_eq, Decidable.not_not, bne_eq_false_iff_eq] at hc7
            have na := hf.near ((idx l time) - 1) (by omega)
            have nb := hf.near (idx l time) (by omega)
            have hD : 0 < ((l.getD (idx l time) default).t - (l.getD ((idx l time) - 1) default).t) := (by have := hf.asc (idx l time) (by omega) (by omega); omega)
            have ht1 := idx_below (l := l) (time := time) (k := (idx l time) - 1) (by omega)
            have ht2 := idx_at (l := l) (time := time) (by omega)
            have hN := lineN_bd na nb (by omega) ht2
            refine W_skip ?_
            refine bn ?_
            refine tn ?_
            refine rd1 rfl ?_
            refine d1 50 296 1 rfl rfl rfl rfl rfl rfl (by first | trivial | omega | (simp only [List.length_map, List.length_append, List.length_cons, List.length_nil] at *; omega)) ?_
            refine d1 51 304 2 rfl rfl rfl rfl rfl rfl trivial ?_
            refine dA 52 312 3 rfl rfl rfl rfl rfl rfl rfl rfl rfl (by unfold inRange; omega) ?_
            refine d1 53 320 4 rfl rfl rfl rfl rfl rfl (by omega) ?_
            refine d1 54 328 5 rfl rfl rfl rfl rfl rfl (by first | trivial | omega | (simp only [List.length_map, List.length_append, List.length_cons, List.length_nil] at *; omega)) ?_
            refine val 54 (smpS (l.getD ((idx l time) - 1) default)) rfl (by rw [show (((idx l time) : Int) - 1).toNat = (idx l time) - 1 by omega]; rfl) ?_
            refine d1 55 336 6 rfl rfl rfl rfl rfl rfl (by first | trivial | omega | (simp only [List.length_map, List.length_append, List.length_cons, List.length_nil] at *; omega)) ?_
            refine d1 56 344 7 rfl rfl rfl rfl rfl rfl trivial ?_
            refine d1 57 352 8 rfl rfl rfl rfl rfl rfl (by omega) ?_
            refine d1 58 360 9 rfl rfl rfl rfl rfl rfl (by first | trivial | omega | (simp only [List.length_map, List.length_append, List.length_cons, List.length_nil] at *; omega)) ?_
            refine val 58 (smpS (l.getD (idx l time) default)) rfl rfl ?_
            refine d1 8 368 10 rfl rfl rfl rfl rfl rfl trivial ?_
            refine d1 9 376 11 rfl rfl rfl rfl rfl rfl trivial ?_
            refine d0 384 12 rfl rfl rfl rfl rfl (by first | trivial | omega | (simp only [List.length_map, List.length_append, List.length_cons, List.length_nil] at *; omega)) ?_
            refine d0 392 13 rfl rfl rfl rfl rfl (by first | trivial | omega | (simp only [List.length_map, List.length_append, List.length_cons, List.length_nil] at *; omega)) ?_
            refine de1 400 rfl (by kernel_rfl) ?_
            refine keep [3, 8, 9] rfl ?_
            refine rd1 rfl ?_
            refine d1 59 400 1 rfl rfl rfl rfl rfl rfl trivial ?_
            refine d1 60 408 2 rfl rfl rfl rfl rfl rfl (by first | trivial | omega | (simp only [List.length_map, List.length_append, List.length_cons, List.length_nil] at *; omega)) ?_
            refine d1 61 416 3 rfl rfl rfl rfl rfl rfl trivial ?_
            refine d1 62 424 4 rfl rfl rfl rfl rfl rfl (by first | trivial | omega | (simp only [List.length_map, List.length_append, List.length_cons, List.length_nil] at *; omega)) ?_
            refine dA 63 432 5 rfl rfl rfl rfl rfl rfl rfl rfl rfl (by unfold inRange; omega) ?_
            refine d1 64 440 6 rfl rfl rfl rfl rfl rfl (by first | trivial | omega | (simp only [List.length_map, List.length_append, List.length_cons, List.length_nil] at *; omega)) ?_
            refine d1 65 448 7 rfl rfl rfl rfl rfl rfl trivial ?_
            refine d1 66 456 8 rfl rfl rfl rfl rfl rfl (by first | trivial | omega | (simp only [List.length_map, List.length_append, List.length_cons, List.length_nil] at *; omega)) ?_
            refine dA 67 464 9 rfl rfl rfl rfl rfl rfl rfl rfl rfl (by unfold inRange; omega) ?_
            refine dA 68 472 10 rfl rfl rfl rfl rfl rfl rfl rfl rfl (by have := hN; unfold lineN at this; exact ⟨by omega, by omega⟩) ?_
            refine val 68 (SV.i (lineN (l.getD ((idx l time) - 1) default) (l.getD (idx l time) default) time)) rfl rfl ?_
            refine d1 69 480 11 rfl rfl rfl rfl rfl rfl trivial ?_
            refine d1 70 488 12 rfl rfl rfl rfl rfl rfl (by first | trivial | omega | (simp only [List.length_map, List.length_append, List.length_cons, List.length_nil] at *; omega)) ?_
            refine d1 71 496 13 rfl rfl rfl rfl rfl rfl trivial ?_
            refine d1 72 504 14 rfl rfl rfl rfl rfl rfl (by first | trivial | omega | (simp only [List.length_map, List.length_append, List.length_cons, List.length_nil] at *; omega)) ?_
            refine dA 73 512 15 rfl rfl rfl rfl rfl rfl rfl rfl rfl (by unfold inRange; omega) ?_
            refine d1 10 520 16 rfl rfl rfl rfl rfl rfl trivial ?_
            refine d1 11 528 17 rfl rfl rfl rfl rfl rfl trivial ?_
            refine de1 536 rfl (by kernel_rfl) ?_
            refine keep [8, 10, 11] rfl ?_
            refine r1 ?_
            refine s1 74 536 1 rfl rfl rfl rfl rfl rfl trivial ?_
            refine s1 75 544 2 rfl rfl rfl rfl rfl rfl trivial ?_
            refine s1 76 552 3 rfl rfl rfl rfl rfl rfl (by show _ ≠ _; omega) ?_
            refine val 76 (SV.i ((lineN (l.getD ((idx l time) - 1) default) (l.getD (idx l time) default) time).tdiv ((l.getD (idx l time) default).t - (l.getD ((idx l time) - 1) default).t))) rfl (congrArg (fun x => SV.d (D.val (Value.int .i64 x))) (tquo_in hD hN)) ?_
            refine s1 12 560 4 rfl rfl rfl rfl rfl rfl trivial ?_
            refine e1 568 rfl ?_
            refine keep [8, 10, 11, 12] rfl ?_
            refine W_seq ?_
            refine r1 ?_
            refine s1 77 568 1 rfl rfl rfl rfl rfl rfl trivial ?_
            refine s1 78 576 2 rfl rfl rfl rfl rfl rfl trivial ?_
            refine s1 79 584 3 rfl rfl rfl rfl rfl rfl (by show _ ≠ _; omega) ?_
            refine s1 80 592 4 rfl rfl rfl rfl rfl rfl (by first | trivial | omega | (simp only [List.length_map, List.length_append, List.length_cons, List.length_nil] at *; omega)) ?_
            refine e1 600 rfl ?_
            refine keep [8, 12, 80] rfl ?_
            refine q1 rfl (fun hc12 => ?_) (fun hc12 => ?_)
            · skip
              try simp only [decide_eq_true_eq, decide_eq_false_iff_not, Bool.not_eq_true', Bool.not_eq_false', beq_iff_eq, bne_iff_ne, beq_eq_false_iff_ne, Bool.and_eq_true, Bool.or_eq_true, Bool.and_eq_false_iff, Bool.or_eq_false_iff, ge_iff_le, gt_iff_lt, Int.not_lt, Int.not_le, ne_eq, Decidable.not_not, bne_eq_false_iff_eq] at hc12
              refine r0 ?_
              refine s1 81 600 1 rfl rfl rfl rfl rfl rfl trivial ?_
              refine sA 82 608 2 rfl rfl rfl rfl rfl rfl rfl rfl rfl (by have := quo_bd hD hN; have := floor_of hD hc12; unfold inRange; omega) ?_
              refine s1 12 616 3 rfl rfl rfl rfl rfl rfl trivial ?_
              refine e1 624 rfl ?_
              refine tn ?_
              refine r1 ?_
              refine s1 83 624 1 rfl rfl rfl rfl rfl rfl trivial ?_
              refine s1 84 632 2 rfl rfl rfl rfl rfl rfl (by first | trivial | omega | (simp only [List.length_map, List.length_append, List.length_cons, List.length_nil] at *; omega)) ?_
              refine s1 85 640 3 rfl rfl rfl rfl rfl rfl trivial ?_
              refine sA 86 648 4 rfl rfl rfl rfl rfl rfl rfl rfl rfl (by have := quo_bd hD hN; first | (have := floor_of hD hc12; unfold inRange; omega) | (have := floor_of' hD hc12; unfold inRange; omega)) ?_
              refine s1 4 656 5 rfl rfl rfl rfl rfl rfl trivial ?_
              refine s1 5 664 6 rfl rfl rfl rfl rfl rfl trivial ?_
              refine e1 672 rfl ?_
              refine keep [4, 5] rfl ?_
              refine W_ret ?_
              exact out2 4 5 (SV.i (atV l time).1) (SV.i (atV l time).2) (π := []) (hout := []) Tryd.results24 rfl rfl (by unfold atV; rw [if_pos hc2, if_neg hx5, if_neg (by omega)]; show SV.i _ = SV.i _; refine congrArg SV.i ?_; first | (rw [floor_of hD hc12]; rfl) | (rw [floor_of' hD hc12]; rfl)) (by unfold atV; rw [if_pos hc2, if_neg hx5, if_neg (by omega)]; rfl) rfl rfl trivial ⟨rfl, rfl⟩
            · skip
              try simp only [decide_eq_true_eq, decide_eq_false_iff_not, Bool.not_eq_true', Bool.not_eq_false', beq_iff_eq, bne_iff_ne, beq_eq_false_iff_ne, Bool.and_eq_true, Bool.or_eq_true, Bool.and_eq_false_iff, Bool.or_eq_false_iff, ge_iff_le, gt_iff_lt, Int.not_lt, Int.not_le, ne_eq, Decidable.not_not, bne_eq_false_iff_eq] at hc12
              refine W_skip ?_
              refine tn ?_
              refine r1 ?_
              refine s1 83 600 1 rfl rfl rfl rfl rfl rfl trivial ?_
              refine s1 84 608 2 rfl rfl rfl rfl rfl rfl (by first | trivial | omega | (simp only [List.length_map, List.length_append, List.length_cons, List.length_nil] at *; omega)) ?_
              refine s1 85 616 3 rfl rfl rfl rfl rfl rfl trivial ?_
              refine sA 86 624 4 rfl rfl rfl rfl rfl rfl rfl rfl rfl (by have := quo_bd hD hN; first | (have := floor_of hD hc12; unfold inRange; omega) | (have := floor_of' hD hc12; unfold inRange; omega)) ?_
              refine s1 4 632 5 rfl rfl rfl rfl rfl rfl trivial ?_
              refine s1 5 640 6 rfl rfl rfl rfl rfl rfl trivial ?_
              refine e1 648 rfl ?_
              refine keep [4, 5] rfl ?_
              refine W_ret ?_
              exact out2 4 5 (SV.i (atV l time).1) (SV.i (atV l time).2) (π := []) (hout := []) Tryd.results24 rfl rfl (by unfold atV; rw [if_pos hc2, if_neg hx5, if_neg (by omega)]; show SV.i _ = SV.i _; refine congrArg SV.i ?_; first | (rw [floor_of hD hc12]; rfl) | (rw [floor_of' hD hc12]; rfl)) (by unfold atV; rw [if_pos hc2, if_neg hx5, if_neg (by omega)]; rfl) rfl rfl trivial ⟨rfl, rfl⟩

theorem refAt_any (l : List Smp) (hin : SmpIn l) (time : Int) (ht : inRange time) : Spec Tryd.prog GC 25 [smpV l, SV.i time] [] (fun r ho => r = SV.tup [SV.i (atV l time).1, SV.i (atV l time).2] ∧ ho = []) := by
  refine start 108 0 Tryd.func25 rfl rfl rfl rfl ?_
  refine r1 ?_
  refine s1 4 0 1 rfl rfl rfl rfl rfl rfl trivial ?_
  refine s1 5 8 2 rfl rfl rfl rfl rfl rfl trivial ?_
  refine e1 16 rfl ?_
  refine keep [0, 1] rfl ?_
  refine W_seq ?_
  refine r1 ?_
  refine s1 16 16 1 rfl rfl rfl rfl rfl rfl trivial ?_
  refine c1 (refFault_any l hin) [] [] 17 24 2 rfl rfl rfl rfl rfl rfl rfl rfl Tryd.func53 rfl rfl rfl rfl trivial rfl rfl ?_
  refine s1 6 32 3 rfl rfl rfl rfl rfl rfl trivial ?_
  refine e1 40 rfl ?_
  refine keep [0, 1, 6] rfl ?_
  refine r1 ?_
  refine s1 18 40 1 rfl rfl rfl rfl rfl rfl trivial ?_
  refine s1 19 48 2 rfl rfl rfl rfl rfl rfl (by first | trivial | omega | (simp only [List.length_map, List.length_append, List.length_cons, List.length_nil] at *; omega)) ?_
  refine e1 56 rfl ?_
  refine keep [0, 1, 6, 19] rfl ?_
  refine q1 rfl (fun hc2 => ?_) (fun hc2 => ?_)
  · skip
    try simp only [decide_eq_true_eq, decide_eq_false_iff_not, Bool.not_eq_true', Bool.not_eq_false', beq_iff_eq, bne_iff_ne, beq_eq_false_iff_ne, Bool.and_eq_true, Bool.or_eq_true, Bool.and_eq_false_iff, Bool.or_eq_false_iff, ge_iff_le, gt_iff_lt, Int.not_lt, Int.not_le, ne_eq, Decidable.not_not, bne_eq_false_iff_eq] at hc2
    refine r1 ?_
    refine s1 20 56 1 rfl rfl rfl rfl rfl rfl trivial ?_
    refine s1 4 64 2 rfl rfl rfl rfl rfl rfl trivial ?_
    refine s1 5 72 3 rfl rfl rfl rfl rfl rfl trivial ?_
    refine e1 80 rfl ?_
    refine keep [4, 5] rfl ?_
    refine W_ret ?_
    refine tr ?_
    exact out2 4 5 (SV.i (atV l time).1) (SV.i (atV l time).2) (π := []) (hout := []) Tryd.results25 rfl rfl (by unfold atV; rw [if_neg hc2]; rfl) (by unfold atV; rw [if_neg hc2]; rfl) rfl rfl trivial ⟨rfl, rfl⟩
  · skip
    try simp only [decide_eq_true_eq, decide_eq_false_iff_not, Bool.not_eq_true', Bool.not_eq_false', beq_iff_eq, bne_iff_ne, beq_eq_false_iff_ne, Bool.and_eq_true, Bool.or_eq_true, Bool.and_eq_false_iff, Bool.or_eq_false_iff, ge_iff_le, gt_iff_lt, Int.not_lt, Int.not_le, ne_eq, Decidable.not_not, bne_eq_false_iff_eq] at hc2
    have hf := fine_of hc2
    have hl := hf.len
    refine W_skip ?_
    refine tn ?_
    refine W_seq ?_
    refine r1 ?_
    refine s1 21 56 1 rfl rfl rfl rfl rfl rfl trivial ?_
    refine s1 22 64 2 rfl rfl rfl rfl rfl rfl (by first | trivial | omega | (simp only [List.length_map, List.length_append, List.length_cons, List.length_nil] at *; omega)) ?_
    refine s1 23 72 3 rfl rfl rfl rfl rfl rfl trivial ?_
    refine e1 80 rfl ?_
    refine keep [0, 1, 21, 22, 23] rfl ?_
    refine W_block ?_
    refine loop (α := Nat) 0 (fun n => [(0, smpV l), (1, SV.i time), (21, smpV l), (22, SV.i l.length), (23, SV.i (n))]) (fun n => []) (fun n => (n) ≤ l.length ∧ ∀ q, q < (n) → (l.getD q default).t ≠ time) (fun n => l.length - (n)) (((0) : Nat)) [] (fun _ => rfl) (show (0) ≤ l.length ∧ ∀ q, q < (0) → (l.getD q default).t ≠ time from ⟨Nat.zero_le _, fun q hq => by omega⟩) rfl ⟨rfl, rfl, rfl, rfl, rfl, trivial⟩ trivial (fun n hx => ?_)
    show W _ _ _ ⟨tOf [(0, smpV l), (1, SV.i time), (21, smpV l), (22, SV.i l.length), (23, SV.i n)], hOf [], 0⟩
    have hx : n ≤ l.length ∧ ∀ q, q < n → (l.getD q default).t ≠ time := hx
    obtain ⟨hn, hno⟩ := hx
    refine r1 ?_
    refine s1 24 0 1 rfl rfl rfl rfl rfl rfl (by first | trivial | omega | (simp only [List.length_map, List.length_append, List.length_cons, List.length_nil] at *; omega)) ?_
    refine e1 8 rfl ?_
    refine keep [0, 1, 21, 22, 23, 24] rfl ?_
    refine W_seq ?_
    refine q1 rfl (fun hc5 => ?_) (fun hc5 => ?_)
    · skip
      try simp only [decide_eq_true_eq, decide_eq_false_iff_not, Bool.not_eq_true', Bool.not_eq_false', beq_iff_eq, bne_iff_ne, beq_eq_false_iff_ne, Bool.and_eq_true, Bool.or_eq_true, Bool.and_eq_false_iff, Bool.or_eq_false_iff, ge_iff_le, gt_iff_lt, Int.not_lt, Int.not_le, ne_eq, Decidable.not_not, bne_eq_false_iff_eq] at hc5
      refine W_skip ?_
      refine tn ?_
      refine W_seq ?_
      refine W_block ?_
      refine r1 ?_
      refine s1 25 8 1 rfl rfl rfl rfl rfl rfl (by first | trivial | omega | (simp only [List.length_map, List.length_append, List.length_cons, List.length_nil] at *; omega)) ?_
      refine s1 26 16 2 rfl rfl rfl rfl rfl rfl (by first | trivial | omega | (simp only [List.length_map, List.length_append, List.length_cons, List.length_nil] at *; omega)) ?_
      refine val 26 (smpS (l.getD n default)) rfl (by first | rfl | (simp only [Nat.zero_add, Int.toNat_natCast]; rfl)) ?_
      refine s1 8 24 3 rfl rfl rfl rfl rfl rfl trivial ?_
      refine s0 32 4 rfl rfl rfl rfl rfl (by first | trivial | omega | (simp only [List.length_map, List.length_append, List.length_cons, List.length_nil] at *; omega)) ?_
      refine e1 40 rfl ?_
      refine keep [0, 1, 8, 21, 22, 23] rfl ?_
      refine r1 ?_
      refine s1 27 40 1 rfl rfl rfl rfl rfl rfl trivial ?_
      refine s1 28 48 2 rfl rfl rfl rfl rfl rfl (by first | trivial | omega | (simp only [List.length_map, List.length_append, List.length_cons, List.length_nil] at *; omega)) ?_
      refine s1 29 56 3 rfl rfl rfl rfl rfl rfl trivial ?_
      refine s1 30 64 4 rfl rfl rfl rfl rfl rfl (by first | trivial | omega | (simp only [List.length_map, List.length_append, List.length_cons, List.length_nil] at *; omega)) ?_
      refine e1 72 rfl ?_
      refine keep [0, 1, 8, 21, 22, 23, 30] rfl ?_
      refine q1 rfl (fun hc7 => ?_) (fun hc7 => ?_)
      · skip
        try simp only [decide_eq_true_eq, decide_eq_false_iff_not, Bool.not_eq_true', Bool.not_eq_false', beq_iff_eq, bne_iff_ne, beq_eq_false_iff_ne, Bool.and_eq_true, Bool.or_eq_true, Bool.and_eq_false_iff, Bool.or_eq_false_iff, ge_iff_le, gt_iff_lt, Int.not_lt, Int.not_le, ne_eq, Decidable.not_not, bne_eq_false_iff_eq] at hc7
        refine r1 ?_
        refine s1 31 72 1 rfl rfl rfl rfl rfl rfl trivial ?_
        refine s1 32 80 2 rfl rfl rfl rfl rfl rfl (by first | trivial | omega | (simp only [List.length_map, List.length_append, List.length_cons, List.length_nil] at *; omega)) ?_
        refine s1 4 88 3 rfl rfl rfl rfl rfl rfl trivial ?_
        refine s1 5 96 4 rfl rfl rfl rfl rfl rfl trivial ?_
        refine e1 104 rfl ?_
        refine keep [4, 5] rfl ?_
        refine W_ret ?_
        refine br ?_
        refine tr ?_
        refine tr ?_
        refine br ?_
        refine tr ?_
        exact out2 4 5 (SV.i (atV l time).1) (SV.i (atV l time).2) (π := []) (hout := []) Tryd.results25 rfl rfl (by have hi : idx l time = n := (idx_eq (by omega) (fun q hq => by have := fine_lt hf n q hq (by omega); omega) (fun _ => by omega)); unfold atV; rw [if_pos hc2, hi, if_pos ⟨by omega, by omega⟩]; rfl) (by have hi : idx l time = n := (idx_eq (by omega) (fun q hq => by have := fine_lt hf n q hq (by omega); omega) (fun _ => by omega)); unfold atV; rw [if_pos hc2, hi, if_pos ⟨by omega, by omega⟩]; rfl) rfl rfl trivial ⟨rfl, rfl⟩
      · skip
        try simp only [decide_eq_true_eq, decide_eq_false_iff_not, Bool.not_eq_true', Bool.not_eq_false', beq_iff_eq, bne_iff_ne, beq_eq_false_iff_ne, Bool.and_eq_true, Bool.or_eq_true, Bool.and_eq_false_iff, Bool.or_eq_false_iff, ge_iff_le, gt_iff_lt, Int.not_lt, Int.not_le, ne_eq, Decidable.not_not, bne_eq_false_iff_eq] at hc7
        refine W_skip ?_
        refine bn ?_
        refine tn ?_
        refine r0 ?_
        refine sA 33 72 1 rfl rfl rfl rfl rfl rfl rfl rfl rfl (by unfold inRange; omega) ?_
        refine s1 23 80 2 rfl rfl rfl rfl rfl rfl trivial ?_
        refine e1 88 rfl ?_
        refine tn ?_
        exact again ((n + 1 : Nat)) [] (show (n + 1) ≤ l.length ∧ ∀ q, q < (n + 1) → (l.getD q default).t ≠ time from ⟨by omega, fun q hq => by by_cases e : q = n; (subst e; exact hc7); exact hno q (by omega)⟩) (show l.length - (n + 1) < l.length - n from (by omega)) rfl ⟨rfl, rfl, rfl, rfl, rfl, trivial⟩ trivial
    · skip
      try simp only [decide_eq_true_eq, decide_eq_false_iff_not, Bool.not_eq_true', Bool.not_eq_false', beq_iff_eq, bne_iff_ne, beq_eq_false_iff_ne, Bool.and_eq_true, Bool.or_eq_true, Bool.and_eq_false_iff, Bool.or_eq_false_iff, ge_iff_le, gt_iff_lt, Int.not_lt, Int.not_le, ne_eq, Decidable.not_not, bne_eq_false_iff_eq] at hc5
      refine W_exit ?_
      refine tx ?_
      refine tx ?_
      refine bx ?_
      refine tn ?_
      refine W_seq ?_
      refine r1 ?_
      refine s1 9 8 1 rfl rfl rfl rfl rfl rfl trivial ?_
      refine e1 16 rfl ?_
      refine keep [0, 1, 9] rfl ?_
      refine W_block ?_
      have hno : ∀ q, q < l.length → (l.getD q default).t ≠ time := (fun q hq => hno q (by omega))
      refine loop (α := Nat) 0 (fun i => [(0, smpV l), (1, SV.i time), (9, SV.i (((i) + 1 : Nat) : Int))]) (fun i => []) (fun i => ((i) + 1 ≤ l.length ∨ (i) = 0) ∧ ∀ q, q < (i) → q + 1 < l.length → ¬ ((l.getD q default).t < time ∧ time < (l.getD (q + 1) default).t)) (fun i => l.length - (i)) (((0) : Nat)) [] (fun _ => rfl) (show ((0) + 1 ≤ l.length ∨ (0) = 0) ∧ ∀ q, q < (0) → q + 1 < l.length → ¬ ((l.getD q default).t < time ∧ time < (l.getD (q + 1) default).t) from ⟨.inr rfl, fun q hq => by omega⟩) rfl ⟨rfl, rfl, rfl, trivial⟩ trivial (fun i hx => ?_)
      show W _ _ _ ⟨tOf [(0, smpV l), (1, SV.i time), (9, SV.i ((i + 1 : Nat) : Int))], hOf [], 0⟩
      have hx : (i + 1 ≤ l.length ∨ i = 0) ∧ ∀ q, q < i → q + 1 < l.length → ¬ ((l.getD q default).t < time ∧ time < (l.getD (q + 1) default).t) := hx
      obtain ⟨hi, hbr⟩ := hx
      refine W_seq ?_
      refine r1 ?_
      refine s1 34 0 1 rfl rfl rfl rfl rfl rfl trivial ?_
      refine s1 35 8 2 rfl rfl rfl rfl rfl rfl trivial ?_
      refine s1 36 16 3 rfl rfl rfl rfl rfl rfl (by first | trivial | omega | (simp only [List.length_map, List.length_append, List.length_cons, List.length_nil] at *; omega)) ?_
      refine s1 37 24 4 rfl rfl rfl rfl rfl rfl (by first | trivial | omega | (simp only [List.length_map, List.length_append, List.length_cons, List.length_nil] at *; omega)) ?_
      refine e1 32 rfl ?_
      refine keep [0, 1, 9, 37] rfl ?_
      refine q1 rfl (fun hc11 => ?_) (fun hc11 => ?_)
      · skip
        try simp only [decide_eq_true_eq, decide_eq_false_iff_not, Bool.not_eq_true', Bool.not_eq_false', beq_iff_eq, bne_iff_ne, beq_eq_false_iff_ne, Bool.and_eq_true, Bool.or_eq_true, Bool.and_eq_false_iff, Bool.or_eq_false_iff, ge_iff_le, gt_iff_lt, Int.not_lt, Int.not_le, ne_eq, Decidable.not_not, bne_eq_false_iff_eq] at hc11
        have na := hf.near i (by omega)
        have nb := hf.near (i + 1) (by omega)
        have has := hf.asc (i + 1) (by omega) (by omega)
        rw [Nat.add_sub_cancel] at has
        have hD : 0 < ((l.getD (i + 1) default).t - (l.getD i default).t) := (by omega)
        refine W_skip ?_
        refine tn ?_
        refine W_seq ?_
        refine W_block ?_
        refine r1 ?_
        refine s1 40 32 1 rfl rfl rfl rfl rfl rfl trivial ?_
        refine s1 41 40 2 rfl rfl rfl rfl rfl rfl trivial ?_
        refine sA 42 48 3 rfl rfl rfl rfl rfl rfl rfl rfl rfl (by unfold inRange; omega) ?_
        refine s1 43 56 4 rfl rfl rfl rfl rfl rfl (by omega) ?_
        refine s1 44 64 5 rfl rfl rfl rfl rfl rfl (by first | trivial | omega | (simp only [List.length_map, List.length_append, List.length_cons, List.length_nil] at *; omega)) ?_
        refine val 44 (smpS (l.getD i default)) rfl (by rw [show (((i + 1 : Nat) : Int) - 1).toNat = i by omega]; rfl) ?_
        refine s1 10 72 6 rfl rfl rfl rfl rfl rfl trivial ?_
        refine s0 80 7 rfl rfl rfl rfl rfl (by first | trivial | omega | (simp only [List.length_map, List.length_append, List.length_cons, List.length_nil] at *; omega)) ?_
        refine e1 88 rfl ?_
        refine keep [0, 1, 9, 10] rfl ?_
        refine r1 ?_
        refine s1 45 88 1 rfl rfl rfl rfl rfl rfl trivial ?_
        refine s1 46 96 2 rfl rfl rfl rfl rfl rfl trivial ?_
        refine s1 47 104 3 rfl rfl rfl rfl rfl rfl (by omega) ?_
        refine s1 48 112 4 rfl rfl rfl rfl rfl rfl (by first | trivial | omega | (simp only [List.length_map, List.length_append, List.length_cons, List.length_nil] at *; omega)) ?_
        refine val 48 (smpS (l.getD (i + 1) default)) rfl rfl ?_
        refine s1 11 120 5 rfl rfl rfl rfl rfl rfl trivial ?_
        refine s0 128 6 rfl rfl rfl rfl rfl (by first | trivial | omega | (simp only [List.length_map, List.length_append, List.length_cons, List.length_nil] at *; omega)) ?_
        refine e1 136 rfl ?_
        refine keep [0, 1, 9, 10, 11] rfl ?_
        refine W_seq ?_
        refine r1 ?_
        refine s1 49 136 1 rfl rfl rfl rfl rfl rfl trivial ?_
        refine s1 50 144 2 rfl rfl rfl rfl rfl rfl (by first | trivial | omega | (simp only [List.length_map, List.length_append, List.length_cons, List.length_nil] at *; omega)) ?_
        refine s1 51 152 3 rfl rfl rfl rfl rfl rfl trivial ?_
        refine s1 52 160 4 rfl rfl rfl rfl rfl rfl (by first | trivial | omega | (simp only [List.length_map, List.length_append, List.length_cons, List.length_nil] at *; omega)) ?_
        refine s1 53 168 5 rfl rfl rfl rfl rfl rfl trivial ?_
        refine ask 53 rfl (fun hg15_53 => ?_) (fun hg15_53 => ?_)
        · skip
          try simp only [decide_eq_true_eq, decide_eq_false_iff_not, Bool.not_eq_true', Bool.not_eq_false', beq_iff_eq, bne_iff_ne, beq_eq_false_iff_ne, Bool.and_eq_true, Bool.or_eq_true, Bool.and_eq_false_iff, Bool.or_eq_false_iff, ge_iff_le, gt_iff_lt, Int.not_lt, Int.not_le, ne_eq, Decidable.not_not, bne_eq_false_iff_eq] at hg15_53
          refine g1 4 true 53 54 6 rfl rfl rfl rfl rfl ?_
          refine s1 54 176 6 rfl rfl rfl rfl rfl rfl trivial ?_
          refine g1 4 true 53 55 7 rfl rfl rfl rfl rfl ?_
          refine s1 55 184 7 rfl rfl rfl rfl rfl rfl trivial ?_
          refine g1 4 true 53 56 8 rfl rfl rfl rfl rfl ?_
          refine s1 56 192 8 rfl rfl rfl rfl rfl rfl (by first | trivial | omega | (simp only [List.length_map, List.length_append, List.length_cons, List.length_nil] at *; omega)) ?_
          refine g1 4 true 53 57 9 rfl rfl rfl rfl rfl ?_
          refine s1 57 200 9 rfl rfl rfl rfl rfl rfl (by first | trivial | omega | (simp only [List.length_map, List.length_append, List.length_cons, List.length_nil] at *; omega)) ?_
          refine s1 58 208 10 rfl rfl rfl rfl rfl rfl trivial ?_
          refine s1 59 216 11 rfl rfl rfl rfl rfl rfl trivial ?_
          refine e1 224 rfl ?_
          refine keep [0, 1, 9, 10, 11, 59] rfl ?_
          refine q1 rfl (fun hc15 => ?_) (fun hc15 => ?_)
          · skip
            try simp only [decide_eq_true_eq, decide_eq_false_iff_not, Bool.not_eq_true', Bool.not_eq_false', beq_iff_eq, bne_iff_ne, beq_eq_false_iff_ne, Bool.and_eq_true, Bool.or_eq_true, Bool.and_eq_false_iff, Bool.or_eq_false_iff, ge_iff_le, gt_iff_lt, Int.not_lt, Int.not_le, ne_eq, Decidable.not_not, bne_eq_false_iff_eq] at hc15
            refine W_exit ?_
            refine tx ?_
            refine bx ?_
            refine tn ?_
            refine r0 ?_
            refine s1 38 224 1 rfl rfl rfl rfl rfl rfl trivial ?_
            refine sA 39 232 2 rfl rfl rfl rfl rfl rfl rfl rfl rfl (by unfold inRange; omega) ?_
            refine s1 9 240 3 rfl rfl rfl rfl rfl rfl trivial ?_
            refine e1 248 rfl ?_
            refine tn ?_
            exact again ((i + 1 : Nat)) [] (show ((i + 1) + 1 ≤ l.length ∨ (i + 1) = 0) ∧ ∀ q, q < (i + 1) → q + 1 < l.length → ¬ ((l.getD q default).t < time ∧ time < (l.getD (q + 1) default).t) from ⟨by omega, fun q hq hq2 => by by_cases e : q = i; (subst e; omega); exact hbr q (by omega) hq2⟩) (show l.length - (i + 1) < l.length - i from (by omega)) rfl ⟨rfl, rfl, rfl, trivial⟩ trivial
          · skip
            try simp only [decide_eq_true_eq, decide_eq_false_iff_not, Bool.not_eq_true', Bool.not_eq_false', beq_iff_eq, bne_iff_ne, beq_eq_false_iff_ne, Bool.and_eq_true, Bool.or_eq_true, Bool.and_eq_false_iff, Bool.or_eq_false_iff, ge_iff_le, gt_iff_lt, Int.not_lt, Int.not_le, ne_eq, Decidable.not_not, bne_eq_false_iff_eq] at hc15
            refine W_skip ?_
            refine tn ?_
            have hfl := floor_in (a := (l.getD i default)) (b := (l.getD (i + 1) default)) (time := time) hD (by omega) (by omega)
            refine r1 ?_
            refine s1 60 224 1 rfl rfl rfl rfl rfl rfl trivial ?_
            refine s1 61 232 2 rfl rfl rfl rfl rfl rfl (by first | trivial | omega | (simp only [List.length_map, List.length_append, List.length_cons, List.length_nil] at *; omega)) ?_
            refine s1 62 240 3 rfl rfl rfl rfl rfl rfl trivial ?_
            refine s1 63 248 4 rfl rfl rfl rfl rfl rfl (by first | trivial | omega | (simp only [List.length_map, List.length_append, List.length_cons, List.length_nil] at *; omega)) ?_
            refine s1 64 256 5 rfl rfl rfl rfl rfl rfl trivial ?_
            refine sA 65 264 6 rfl rfl rfl rfl rfl rfl rfl rfl rfl ⟨by omega, by omega⟩ ?_
            have hm1 := mul_bd (a := 16777216) (b := 33554432) (x := (l.getD i default).v) (y := (l.getD (i + 1) default).t - time) na.2 (by omega)
            have hm2 := mul_bd (a := 16777216) (b := 33554432) (x := (l.getD (i + 1) default).v) (y := time - (l.getD i default).t) nb.2 (by omega)
            refine sA 66 272 7 rfl rfl rfl rfl rfl rfl rfl rfl rfl ⟨by omega, by omega⟩ ?_
            refine s1 67 280 8 rfl rfl rfl rfl rfl rfl trivial ?_
            refine s1 68 288 9 rfl rfl rfl rfl rfl rfl (by first | trivial | omega | (simp only [List.length_map, List.length_append, List.length_cons, List.length_nil] at *; omega)) ?_
            refine s1 69 296 10 rfl rfl rfl rfl rfl rfl trivial ?_
            refine s1 70 304 11 rfl rfl rfl rfl rfl rfl trivial ?_
            refine s1 71 312 12 rfl rfl rfl rfl rfl rfl (by first | trivial | omega | (simp only [List.length_map, List.length_append, List.length_cons, List.length_nil] at *; omega)) ?_
            refine sA 72 320 13 rfl rfl rfl rfl rfl rfl rfl rfl rfl (by unfold inRange; omega) ?_
            refine sA 73 328 14 rfl rfl rfl rfl rfl rfl rfl rfl rfl ⟨by omega, by omega⟩ ?_
            refine sA 74 336 15 rfl rfl rfl rfl rfl rfl rfl rfl rfl ⟨by omega, by omega⟩ ?_
            refine s1 12 344 16 rfl rfl rfl rfl rfl rfl trivial ?_
            refine e1 352 rfl ?_
            refine keep [10, 11, 12] rfl ?_
            refine r1 ?_
            refine s1 75 352 1 rfl rfl rfl rfl rfl rfl trivial ?_
            refine s1 76 360 2 rfl rfl rfl rfl rfl rfl (by first | trivial | omega | (simp only [List.length_map, List.length_append, List.length_cons, List.length_nil] at *; omega)) ?_
            refine s1 77 368 3 rfl rfl rfl rfl rfl rfl trivial ?_
            refine s1 78 376 4 rfl rfl rfl rfl rfl rfl (by first | trivial | omega | (simp only [List.length_map, List.length_append, List.length_cons, List.length_nil] at *; omega)) ?_
            refine s1 79 384 5 rfl rfl rfl rfl rfl rfl trivial ?_
            refine s1 13 392 6 rfl rfl rfl rfl rfl rfl trivial ?_
            refine e1 400 rfl ?_
            refine keep [10, 11, 12, 13] rfl ?_
            refine r1 ?_
            refine s1 80 400 1 rfl rfl rfl rfl rfl rfl trivial ?_
            refine s1 81 408 2 rfl rfl rfl rfl rfl rfl (by first | trivial | omega | (simp only [List.length_map, List.length_append, List.length_cons, List.length_nil] at *; omega)) ?_
            refine s1 82 416 3 rfl rfl rfl rfl rfl rfl trivial ?_
            refine s1 83 424 4 rfl rfl rfl rfl rfl rfl (by first | trivial | omega | (simp only [List.length_map, List.length_append, List.length_cons, List.length_nil] at *; omega)) ?_
            refine s1 84 432 5 rfl rfl rfl rfl rfl rfl trivial ?_
            refine s1 14 440 6 rfl rfl rfl rfl rfl rfl trivial ?_
            refine e1 448 rfl ?_
            refine keep [10, 11, 12, 13, 14] rfl ?_
            refine W_seq ?_
            refine W_block ?_
            refine loop (α := Int × Int) 2 (fun z => [(10, .ptr 0 0 0), (11, .ptr 1 0 0), (12, SV.i ((l.getD i default).v * ((l.getD (i + 1) default).t - time) + (l.getD (i + 1) default).v * (time - (l.getD i default).t))), (13, SV.i (z.1)), (14, SV.i (z.2))]) (fun z => [some (.cells 49 2 [SV.i (l.getD i default).t, SV.i (l.getD i default).v]), some (.cells 49 2 [SV.i (l.getD (i + 1) default).t, SV.i (l.getD (i + 1) default).v])]) (fun z => (z.1) ≤ ((l.getD i default).v + lineN (l.getD i default) (l.getD (i + 1) default) time / ((l.getD (i + 1) default).t - (l.getD i default).t)) ∧ ((l.getD i default).v + lineN (l.getD i default) (l.getD (i + 1) default) time / ((l.getD (i + 1) default).t - (l.getD i default).t)) ≤ (z.2) ∧ -16777216 ≤ (z.1) ∧ (z.2) ≤ 16777216) (fun z => ((z.2) - (z.1)).toNat) ((((if (l.getD (i + 1) default).v < (l.getD i default).v then (l.getD (i + 1) default).v else (l.getD i default).v), (if (l.getD i default).v < (l.getD (i + 1) default).v then (l.getD (i + 1) default).v else (l.getD i default).v)) : Int × Int)) [72, 120] (fun _ => rfl) (show ((if (l.getD (i + 1) default).v < (l.getD i default).v then (l.getD (i + 1) default).v else (l.getD i default).v)) ≤ ((l.getD i default).v + lineN (l.getD i default) (l.getD (i + 1) default) time / ((l.getD (i + 1) default).t - (l.getD i default).t)) ∧ ((l.getD i default).v + lineN (l.getD i default) (l.getD (i + 1) default) time / ((l.getD (i + 1) default).t - (l.getD i default).t)) ≤ ((if (l.getD i default).v < (l.getD (i + 1) default).v then (l.getD (i + 1) default).v else (l.getD i default).v)) ∧ -16777216 ≤ ((if (l.getD (i + 1) default).v < (l.getD i default).v then (l.getD (i + 1) default).v else (l.getD i default).v)) ∧ ((if (l.getD i default).v < (l.getD (i + 1) default).v then (l.getD (i + 1) default).v else (l.getD i default).v)) ≤ 16777216 from ⟨hfl.1, hfl.2, by split <;> omega, by split <;> omega⟩) rfl ⟨rfl, rfl, rfl, rfl, rfl, trivial⟩ ⟨rfl, rfl, trivial⟩ (fun z hx => ?_)
            obtain ⟨lo, hi2⟩ := z
            show W _ _ _ ⟨tOf [(10, .ptr 0 0 0), (11, .ptr 1 0 0), (12, SV.i ((l.getD i default).v * ((l.getD (i + 1) default).t - time) + (l.getD (i + 1) default).v * (time - (l.getD i default).t))), (13, SV.i lo), (14, SV.i hi2)], hOf [some (.cells 49 2 [SV.i (l.getD i default).t, SV.i (l.getD i default).v]), some (.cells 49 2 [SV.i (l.getD (i + 1) default).t, SV.i (l.getD (i + 1) default).v])], 2⟩
            have hx : lo ≤ ((l.getD i default).v + lineN (l.getD i default) (l.getD (i + 1) default) time / ((l.getD (i + 1) default).t - (l.getD i default).t)) ∧ ((l.getD i default).v + lineN (l.getD i default) (l.getD (i + 1) default) time / ((l.getD (i + 1) default).t - (l.getD i default).t)) ≤ hi2 ∧ -16777216 ≤ lo ∧ hi2 ≤ 16777216 := hx
            obtain ⟨g1, g2, g3, g4⟩ := hx
            refine W_seq ?_
            refine r1 ?_
            refine s1 85 2 1 rfl rfl rfl rfl rfl rfl trivial ?_
            refine s1 86 10 2 rfl rfl rfl rfl rfl rfl trivial ?_
            refine s1 87 18 3 rfl rfl rfl rfl rfl rfl (by first | trivial | omega | (simp only [List.length_map, List.length_append, List.length_cons, List.length_nil] at *; omega)) ?_
            refine e1 26 rfl ?_
            refine keep [10, 11, 12, 13, 14, 87] rfl ?_
            refine q1 rfl (fun hc19 => ?_) (fun hc19 => ?_)
            · skip
              try simp only [decide_eq_true_eq, decide_eq_false_iff_not, Bool.not_eq_true', Bool.not_eq_false', beq_iff_eq, bne_iff_ne, beq_eq_false_iff_ne, Bool.and_eq_true, Bool.or_eq_true, Bool.and_eq_false_iff, Bool.or_eq_false_iff, ge_iff_le, gt_iff_lt, Int.not_lt, Int.not_le, ne_eq, Decidable.not_not, bne_eq_false_iff_eq] at hc19
              refine W_skip ?_
              refine tn ?_
              refine W_block ?_
              refine r1 ?_
              refine s1 88 26 1 rfl rfl rfl rfl rfl rfl trivial ?_
              refine s1 89 34 2 rfl rfl rfl rfl rfl rfl trivial ?_
              refine s1 90 42 3 rfl rfl rfl rfl rfl rfl trivial ?_
              refine sA 91 50 4 rfl rfl rfl rfl rfl rfl rfl rfl rfl (by unfold inRange; omega) ?_
              refine sA 92 58 5 rfl rfl rfl rfl rfl rfl rfl rfl rfl (by unfold inRange; omega) ?_
              refine sD 93 66 6 rfl rfl rfl rfl rfl rfl rfl rfl rfl (by omega) ?_
              refine sA 94 74 7 rfl rfl rfl rfl rfl rfl rfl rfl rfl (by unfold inRange; omega) ?_
              refine s1 15 82 8 rfl rfl rfl rfl rfl rfl trivial ?_
              refine e1 90 rfl ?_
              refine keep [10, 11, 12, 13, 14, 15] rfl ?_
              refine r1 ?_
              refine s1 95 90 1 rfl rfl rfl rfl rfl rfl trivial ?_
              refine s1 96 98 2 rfl rfl rfl rfl rfl rfl trivial ?_
              refine s1 97 106 3 rfl rfl rfl rfl rfl rfl (by first | trivial | omega | (simp only [List.length_map, List.length_append, List.length_cons, List.length_nil] at *; omega)) ?_
              refine s1 98 114 4 rfl rfl rfl rfl rfl rfl trivial ?_
              refine s1 99 122 5 rfl rfl rfl rfl rfl rfl (by first | trivial | omega | (simp only [List.length_map, List.length_append, List.length_cons, List.length_nil] at *; omega)) ?_
              refine sA 100 130 6 rfl rfl rfl rfl rfl rfl rfl rfl rfl (by unfold inRange; omega) ?_
              have hm3 := mul_bd (a := 16777216) (b := 33554432) (x := lo + (hi2 - lo + 1) / 2) (y := ((l.getD (i + 1) default).t - (l.getD i default).t)) (by omega) (by omega)
              refine sA 101 138 7 rfl rfl rfl rfl rfl rfl rfl rfl rfl ⟨by omega, by omega⟩ ?_
              refine s1 102 146 8 rfl rfl rfl rfl rfl rfl trivial ?_
              refine s1 103 154 9 rfl rfl rfl rfl rfl rfl (by first | trivial | omega | (simp only [List.length_map, List.length_append, List.length_cons, List.length_nil] at *; omega)) ?_
              refine e1 162 rfl ?_
              refine keep [10, 11, 12, 13, 14, 15, 103] rfl ?_
              refine q1 rfl (fun hc21 => ?_) (fun hc21 => ?_)
              · skip
                try simp only [decide_eq_true_eq, decide_eq_false_iff_not, Bool.not_eq_true', Bool.not_eq_false', beq_iff_eq, bne_iff_ne, beq_eq_false_iff_ne, Bool.and_eq_true, Bool.or_eq_true, Bool.and_eq_false_iff, Bool.or_eq_false_iff, ge_iff_le, gt_iff_lt, Int.not_lt, Int.not_le, ne_eq, Decidable.not_not, bne_eq_false_iff_eq] at hc21
                refine r0 ?_
                refine s1 104 162 1 rfl rfl rfl rfl rfl rfl trivial ?_
                refine s1 13 170 2 rfl rfl rfl rfl rfl rfl trivial ?_
                refine e1 178 rfl ?_
                refine bn ?_
                refine tn ?_
                exact again (((lo + (hi2 - lo + 1) / 2, hi2) : Int × Int)) [0, 1] (show (lo + (hi2 - lo + 1) / 2) ≤ ((l.getD i default).v + lineN (l.getD i default) (l.getD (i + 1) default) time / ((l.getD (i + 1) default).t - (l.getD i default).t)) ∧ ((l.getD i default).v + lineN (l.getD i default) (l.getD (i + 1) default) time / ((l.getD (i + 1) default).t - (l.getD i default).t)) ≤ (hi2) ∧ -16777216 ≤ (lo + (hi2 - lo + 1) / 2) ∧ (hi2) ≤ 16777216 from ⟨(mid_iff hD).1 hc21, g2, by omega, g4⟩) (show ((hi2) - (lo + (hi2 - lo + 1) / 2)).toNat < (hi2 - lo).toNat from (by omega)) rfl ⟨rfl, rfl, rfl, rfl, rfl, trivial⟩ ⟨rfl, rfl, trivial⟩
              · skip
                try simp only [decide_eq_true_eq, decide_eq_false_iff_not, Bool.not_eq_true', Bool.not_eq_false', beq_iff_eq, bne_iff_ne, beq_eq_false_iff_ne, Bool.and_eq_true, Bool.or_eq_true, Bool.and_eq_false_iff, Bool.or_eq_false_iff, ge_iff_le, gt_iff_lt, Int.not_lt, Int.not_le, ne_eq, Decidable.not_not, bne_eq_false_iff_eq] at hc21
                refine r0 ?_
                refine s1 105 162 1 rfl rfl rfl rfl rfl rfl trivial ?_
                refine sA 106 170 2 rfl rfl rfl rfl rfl rfl rfl rfl rfl (by unfold inRange; omega) ?_
                refine s1 14 178 3 rfl rfl rfl rfl rfl rfl trivial ?_
                refine e1 186 rfl ?_
                refine bn ?_
                refine tn ?_
                exact again (((lo, lo + (hi2 - lo + 1) / 2 - 1) : Int × Int)) [0, 1] (show (lo) ≤ ((l.getD i default).v + lineN (l.getD i default) (l.getD (i + 1) default) time / ((l.getD (i + 1) default).t - (l.getD i default).t)) ∧ ((l.getD i default).v + lineN (l.getD i default) (l.getD (i + 1) default) time / ((l.getD (i + 1) default).t - (l.getD i default).t)) ≤ (lo + (hi2 - lo + 1) / 2 - 1) ∧ -16777216 ≤ (lo) ∧ (lo + (hi2 - lo + 1) / 2 - 1) ≤ 16777216 from ⟨g1, by have := mt (mid_iff (time := time) (mid := lo + (hi2 - lo + 1) / 2) hD).2 (by omega); omega, g3, by omega⟩) (show ((lo + (hi2 - lo + 1) / 2 - 1) - (lo)).toNat < (hi2 - lo).toNat from (by omega)) rfl ⟨rfl, rfl, rfl, rfl, rfl, trivial⟩ ⟨rfl, rfl, trivial⟩
            · skip
              try simp only [decide_eq_true_eq, decide_eq_false_iff_not, Bool.not_eq_true', Bool.not_eq_false', beq_iff_eq, bne_iff_ne, beq_eq_false_iff_ne, Bool.and_eq_true, Bool.or_eq_true, Bool.and_eq_false_iff, Bool.or_eq_false_iff, ge_iff_le, gt_iff_lt, Int.not_lt, Int.not_le, ne_eq, Decidable.not_not, bne_eq_false_iff_eq] at hc19
              refine W_exit ?_
              refine tx ?_
              refine tx ?_
              refine bx ?_
              refine tn ?_
              refine r1 ?_
              refine s1 107 26 1 rfl rfl rfl rfl rfl rfl trivial ?_
              refine s1 4 34 2 rfl rfl rfl rfl rfl rfl trivial ?_
              refine s1 5 42 3 rfl rfl rfl rfl rfl rfl trivial ?_
              refine e1 50 rfl ?_
              refine keep [4, 5] rfl ?_
              refine W_ret ?_
              refine br ?_
              refine tr ?_
              refine tr ?_
              refine br ?_
              refine tr ?_
              exact out2 4 5 (SV.i (atV l time).1) (SV.i (atV l time).2) (π := []) (hout := []) Tryd.results25 rfl rfl (by have hi : idx l time = i + 1 := (idx_eq (by omega) (fun q hq => by rcases Nat.lt_or_ge q i with h | h; (have := fine_lt hf i q h (by omega); omega); (rw [show q = i by omega]; omega)) (fun _ => by omega)); unfold atV; rw [if_pos hc2, hi, if_neg (by rintro ⟨g1, g2⟩; omega), if_neg (by omega), Nat.add_sub_cancel]; show SV.i _ = SV.i _; refine congrArg SV.i ?_; (first | rfl | (show lo = ((l.getD i default).v + lineN (l.getD i default) (l.getD (i + 1) default) time / ((l.getD (i + 1) default).t - (l.getD i default).t)); omega))) (by have hi : idx l time = i + 1 := (idx_eq (by omega) (fun q hq => by rcases Nat.lt_or_ge q i with h | h; (have := fine_lt hf i q h (by omega); omega); (rw [show q = i by omega]; omega)) (fun _ => by omega)); unfold atV; rw [if_pos hc2, hi, if_neg (by rintro ⟨g1, g2⟩; omega), if_neg (by omega), Nat.add_sub_cancel]; show SV.i _ = SV.i _; refine congrArg SV.i ?_; (first | rfl | (show lo = ((l.getD i default).v + lineN (l.getD i default) (l.getD (i + 1) default) time / ((l.getD (i + 1) default).t - (l.getD i default).t)); omega))) rfl rfl trivial ⟨rfl, rfl⟩
        · skip
          try simp only [decide_eq_true_eq, decide_eq_false_iff_not, Bool.not_eq_true', Bool.not_eq_false', beq_iff_eq, bne_iff_ne, beq_eq_false_iff_ne, Bool.and_eq_true, Bool.or_eq_true, Bool.and_eq_false_iff, Bool.or_eq_false_iff, ge_iff_le, gt_iff_lt, Int.not_lt, Int.not_le, ne_eq, Decidable.not_not, bne_eq_false_iff_eq] at hg15_53
          refine g0 4 true 53 54 6 rfl rfl rfl rfl rfl rfl ?_
          refine g0 4 true 53 55 7 rfl rfl rfl rfl rfl rfl ?_
          refine g0 4 true 53 56 8 rfl rfl rfl rfl rfl rfl ?_
          refine g0 4 true 53 57 9 rfl rfl rfl rfl rfl rfl ?_
          refine s1 58 208 10 rfl rfl rfl rfl rfl rfl trivial ?_
          refine s1 59 216 11 rfl rfl rfl rfl rfl rfl trivial ?_
          refine e1 224 rfl ?_
          refine keep [0, 1, 9, 10, 11, 59] rfl ?_
          refine q1 rfl (fun hc15 => ?_) (fun hc15 => ?_)
          · skip
            try simp only [decide_eq_true_eq, decide_eq_false_iff_not, Bool.not_eq_true', Bool.not_eq_false', beq_iff_eq, bne_iff_ne, beq_eq_false_iff_ne, Bool.and_eq_true, Bool.or_eq_true, Bool.and_eq_false_iff, Bool.or_eq_false_iff, ge_iff_le, gt_iff_lt, Int.not_lt, Int.not_le, ne_eq, Decidable.not_not, bne_eq_false_iff_eq] at hc15
            refine W_exit ?_
            refine tx ?_
            refine bx ?_
            refine tn ?_
            refine r0 ?_
            refine s1 38 224 1 rfl rfl rfl rfl rfl rfl trivial ?_
            refine sA 39 232 2 rfl rfl rfl rfl rfl rfl rfl rfl rfl (by unfold inRange; omega) ?_
            refine s1 9 240 3 rfl rfl rfl rfl rfl rfl trivial ?_
            refine e1 248 rfl ?_
            refine tn ?_
            exact again ((i + 1 : Nat)) [] (show ((i + 1) + 1 ≤ l.length ∨ (i + 1) = 0) ∧ ∀ q, q < (i + 1) → q + 1 < l.length → ¬ ((l.getD q default).t < time ∧ time < (l.getD (q + 1) default).t) from ⟨by omega, fun q hq hq2 => by by_cases e : q = i; (subst e; omega); exact hbr q (by omega) hq2⟩) (show l.length - (i + 1) < l.length - i from (by omega)) rfl ⟨rfl, rfl, rfl, trivial⟩ trivial
          · skip
            exact absurd hc15 (by decide)
      · skip
        try simp only [decide_eq_true_eq, decide_eq_false_iff_not, Bool.not_eq_true', Bool.not_eq_false', beq_iff_eq, bne_iff_ne, beq_eq_false_iff_ne, Bool.and_eq_true, Bool.or_eq_true, Bool.and_eq_false_iff, Bool.or_eq_false_iff, ge_iff_le, gt_iff_lt, Int.not_lt, Int.not_le, ne_eq, Decidable.not_not, bne_eq_false_iff_eq] at hc11
        refine W_exit ?_
        refine tx ?_
        refine tx ?_
        refine bx ?_
        refine tn ?_
        refine r1 ?_
        refine s1 4 32 1 rfl rfl rfl rfl rfl rfl trivial ?_
        refine s1 5 40 2 rfl rfl rfl rfl rfl rfl trivial ?_
        refine e1 48 rfl ?_
        refine keep [4, 5] rfl ?_
        refine W_ret ?_
        exact out2 4 5 (SV.i (atV l time).1) (SV.i (atV l time).2) (π := []) (hout := []) Tryd.results25 rfl rfl (by have hle := idx_le l time; unfold atV; rw [if_pos hc2, if_neg (by rintro ⟨g1, g2⟩; exact hno _ g1 g2), if_pos (by apply Classical.byContradiction; intro hh; have q1 := idx_below (l := l) (time := time) (k := idx l time - 1) (by omega); have q2 := idx_at (l := l) (time := time) (by omega); have q3 := hno (idx l time) (by omega); have q4 := hbr (idx l time - 1) (by omega) (by omega); rw [show idx l time - 1 + 1 = idx l time by omega] at q4; omega)]; rfl) (by have hle := idx_le l time; unfold atV; rw [if_pos hc2, if_neg (by rintro ⟨g1, g2⟩; exact hno _ g1 g2), if_pos (by apply Classical.byContradiction; intro hh; have q1 := idx_below (l := l) (time := time) (k := idx l time - 1) (by omega); have q2 := idx_at (l := l) (time := time) (by omega); have q3 := hno (idx l time) (by omega); have q4 := hbr (idx l time - 1) (by omega) (by omega); rw [show idx l time - 1 + 1 = idx l time by omega] at q4; omega)]; rfl) rfl rfl trivial ⟨rfl, rfl⟩

theorem lawRateAts_any (l : List Smp) (hin : SmpIn l) (time : Int) (ht : inRange time) : Spec Tryd.prog GC 9 [smpV l, SV.i time] [] (fun r _ => r = SV.b true) := by
  refine start 29 0 Tryd.func9 rfl rfl rfl rfl ?_
  refine r1 ?_
  refine s1 4 0 1 rfl rfl rfl rfl rfl rfl trivial ?_
  refine e1 8 rfl ?_
  refine keep [0, 1] rfl ?_
  refine r1 ?_
  refine s1 10 8 1 rfl rfl rfl rfl rfl rfl trivial ?_
  refine s1 11 16 2 rfl rfl rfl rfl rfl rfl trivial ?_
  refine c1 (at_any l hin time ht) [] [] 12 24 3 rfl rfl rfl rfl rfl rfl rfl rfl Tryd.func24 rfl rfl rfl rfl trivial rfl rfl ?_
  refine s1 9 32 4 rfl rfl rfl rfl rfl rfl trivial ?_
  refine s1 13 40 5 rfl rfl rfl rfl rfl rfl trivial ?_
  refine s1 14 48 6 rfl rfl rfl rfl rfl rfl trivial ?_
  refine s1 5 56 7 rfl rfl rfl rfl rfl rfl trivial ?_
  refine s1 6 64 8 rfl rfl rfl rfl rfl rfl trivial ?_
  refine e1 72 rfl ?_
  refine keep [0, 1, 5, 6] rfl ?_
  refine r1 ?_
  refine s1 16 72 1 rfl rfl rfl rfl rfl rfl trivial ?_
  refine s1 17 80 2 rfl rfl rfl rfl rfl rfl trivial ?_
  refine c1 (refAt_any l hin time ht) [] [] 18 88 3 rfl rfl rfl rfl rfl rfl rfl rfl Tryd.func25 rfl rfl rfl rfl trivial rfl rfl ?_
  refine s1 15 96 4 rfl rfl rfl rfl rfl rfl trivial ?_
  refine s1 19 104 5 rfl rfl rfl rfl rfl rfl trivial ?_
  refine s1 20 112 6 rfl rfl rfl rfl rfl rfl trivial ?_
  refine s1 7 120 7 rfl rfl rfl rfl rfl rfl trivial ?_
  refine s1 8 128 8 rfl rfl rfl rfl rfl rfl trivial ?_
  refine e1 136 rfl ?_
  refine keep [5, 6, 7, 8] rfl ?_
  refine r1 ?_
  refine s1 21 136 1 rfl rfl rfl rfl rfl rfl trivial ?_
  refine s1 22 144 2 rfl rfl rfl rfl rfl rfl trivial ?_
  refine s1 23 152 3 rfl rfl rfl rfl rfl rfl (by first | trivial | omega | (simp only [List.length_map, List.length_append, List.length_cons, List.length_nil] at *; omega)) ?_
  refine s1 24 160 4 rfl rfl rfl rfl rfl rfl trivial ?_
  refine ask 24 rfl (fun hg3_24 => ?_) (fun hg3_24 => ?_)
  · skip
    try simp only [decide_eq_true_eq, decide_eq_false_iff_not, Bool.not_eq_true', Bool.not_eq_false', beq_iff_eq, bne_iff_ne, beq_eq_false_iff_ne, Bool.and_eq_true, Bool.or_eq_true, Bool.and_eq_false_iff, Bool.or_eq_false_iff, ge_iff_le, gt_iff_lt, Int.not_lt, Int.not_le, ne_eq, Decidable.not_not, bne_eq_false_iff_eq] at hg3_24
    refine g1 3 true 24 25 5 rfl rfl rfl rfl rfl ?_
    refine s1 25 168 5 rfl rfl rfl rfl rfl rfl trivial ?_
    refine g1 3 true 24 26 6 rfl rfl rfl rfl rfl ?_
    refine s1 26 176 6 rfl rfl rfl rfl rfl rfl trivial ?_
    refine g1 3 true 24 27 7 rfl rfl rfl rfl rfl ?_
    refine s1 27 184 7 rfl rfl rfl rfl rfl rfl (by first | trivial | omega | (simp only [List.length_map, List.length_append, List.length_cons, List.length_nil] at *; omega)) ?_
    refine s1 28 192 8 rfl rfl rfl rfl rfl rfl trivial ?_
    refine s1 4 200 9 rfl rfl rfl rfl rfl rfl trivial ?_
    refine e1 208 rfl ?_
    refine keep [4] rfl ?_
    refine W_ret ?_
    exact out1 4 (SV.b true) (π := []) (hout := []) Tryd.results9 rfl (by first | rfl | (simp; done) | (simp; rfl) | (simp [*]; rfl)) rfl rfl trivial rfl
  · skip
    try simp only [decide_eq_true_eq, decide_eq_false_iff_not, Bool.not_eq_true', Bool.not_eq_false', beq_iff_eq, bne_iff_ne, beq_eq_false_iff_ne, Bool.and_eq_true, Bool.or_eq_true, Bool.and_eq_false_iff, Bool.or_eq_false_iff, ge_iff_le, gt_iff_lt, Int.not_lt, Int.not_le, ne_eq, Decidable.not_not, bne_eq_false_iff_eq] at hg3_24
    all_goals (exfalso; first | (simp at hg3_24; done) | (simp at hg3_24; omega) | (simp_all; omega) | omega)

end Go.Proofs.YtiedndnegmbkiaaDoor.Nice
