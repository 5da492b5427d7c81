/- Histograms of values: the program's and the document's. -/
import Derived.Test.YtlhncpbcbpdcfaaQuantJoin
namespace Go.Proofs.Ytlhncpbcbpdcfaa.Nice
open Go
set_option linter.unusedVariables false
set_option linter.unusedSimpArgs false
set_option maxRecDepth 100000
def posOf (b : List Int) (v : Int) : Nat := ((List.range b.length).find? fun k => decide (v ≤ b.getD k 0)).getD b.length
theorem pos_eq {b : List Int} {v : Int} {p : Nat} (hp : p ≤ b.length) (h1 : ∀ k, k < p → b.getD k 0 < v) (h2 : p < b.length → v ≤ b.getD p 0) : posOf b v = p := by
  unfold posOf
  by_cases h : p < b.length
  · have : (List.range b.length).find? (fun k => decide (v ≤ b.getD k 0)) = some p := by
      rw [List.find?_range_eq_some]
      refine ⟨by rw [decide_eq_true_eq]; exact h2 h, by simpa using h, fun j hj => ?_⟩
      have := h1 j hj
      rw [Bool.not_eq_true', decide_eq_false_iff_not]; omega
    rw [this]; rfl
  · have : (List.range b.length).find? (fun k => decide (v ≤ b.getD k 0)) = none := by
      rw [List.find?_range_eq_none]
      intro j hj
      have := h1 j (by omega)
      rw [Bool.not_eq_true', decide_eq_false_iff_not]; omega
    rw [this]; show b.length = p; omega
theorem asc_at {b : List Int} (h : bndB b = true) : ∀ (j i : Nat), i < j → j < b.length → b.getD i 0 < b.getD j 0 := by
  have step : ∀ j, 0 < j → j < b.length → b.getD (j - 1) 0 < b.getD j 0 := by
    intro j h0 hj
    unfold bndB ascB at h
    simp only [Bool.and_eq_true, List.all_eq_true, Bool.or_eq_true, decide_eq_true_eq] at h
    have := h.1 j (by simpa using hj)
    omega
  intro j
  induction j with
  | zero => intro i hi; omega
  | succ j ih =>
    intro i hi hj
    have h1 := step (j + 1) (by omega) hj
    rw [Nat.add_sub_cancel] at h1
    by_cases e : i = j
    · subst e; exact h1
    · have := ih i (by omega) (by omega); omega
theorem pos_le (b : List Int) (v : Int) : posOf b v ≤ b.length := by
  unfold posOf
  cases e : (List.range b.length).find? (fun k => decide (v ≤ b.getD k 0)) with
  | none => exact Nat.le_refl _
  | some i =>
    rw [List.find?_range_eq_some] at e
    have : i < b.length := by simpa using e.2.1
    show i ≤ _; omega
theorem pos_iff {b : List Int} (h : bndB b = true) {v : Int} {i : Nat} (hi : i ≤ b.length) : posOf b v = i ↔ (i = 0 ∨ b.getD (i - 1) 0 < v) ∧ (i = b.length ∨ v ≤ b.getD i 0) := by
  constructor
  · rintro rfl
    unfold posOf
    cases e : (List.range b.length).find? (fun k => decide (v ≤ b.getD k 0)) with
    | none =>
      rw [List.find?_range_eq_none] at e
      refine ⟨?_, .inl rfl⟩
      show b.length = 0 ∨ _
      by_cases h0 : b.length = 0
      · exact .inl h0
      · have := e (b.length - 1) (by omega)
        rw [Bool.not_eq_true', decide_eq_false_iff_not] at this
        exact .inr (by show b.getD (b.length - 1) 0 < v; omega)
    | some i =>
      rw [List.find?_range_eq_some] at e
      obtain ⟨e1, e2, e3⟩ := e
      rw [decide_eq_true_eq] at e1
      refine ⟨?_, .inr e1⟩
      show i = 0 ∨ _
      by_cases h0 : i = 0
      · exact .inl h0
      · have := e3 (i - 1) (by omega)
        rw [Bool.not_eq_true', decide_eq_false_iff_not] at this
        exact .inr (by show b.getD (i - 1) 0 < v; omega)
  · rintro ⟨h1, h2⟩
    refine pos_eq hi (fun k hk => ?_) (fun hl => by omega)
    by_cases e : k = i - 1
    · subst e; omega
    · have := asc_at h (i - 1) k (by omega) (by omega); omega
def cntOf (b vs : List Int) : Nat → Nat → Int
  | 0, _ => 0
  | n + 1, i => cntOf b vs n i + if posOf b (vs.getD n 0) = i then 1 else 0
theorem cnt_in (b vs : List Int) (i : Nat) : ∀ n, 0 ≤ cntOf b vs n i ∧ cntOf b vs n i ≤ n
  | 0 => by simp [cntOf]
  | n + 1 => by have := cnt_in b vs i n; simp only [cntOf]; split <;> omega
def cntL (b vs : List Int) : List Int := (List.range (b.length + 1)).map fun i => cntOf b vs vs.length i
theorem cntL_len (b vs : List Int) : (cntL b vs).length = b.length + 1 := by simp [cntL]
theorem cntL_at (b vs : List Int) {i : Nat} (h : i < b.length + 1) : (cntL b vs).getD i 0 = cntOf b vs vs.length i := by simp [cntL, List.getD, h]
def qcounts (vs b : List Int) : List Int × Int := if bndB b = true then (if vs.length ≤ 120 then (cntL b vs, 0) else ([], 1)) else ([], 4)
theorem qc_form {vs b : List Int} (h : bndB b = false) : qcounts vs b = ([], 4) := by unfold qcounts; rw [if_neg (by rw [h]; decide)]
theorem qc_size {vs b : List Int} (h : bndB b = true) (h1 : ¬ vs.length ≤ 120) : qcounts vs b = ([], 1) := by unfold qcounts; rw [if_pos h, if_neg h1]
theorem qc_ok {vs b : List Int} (h : bndB b = true) (h1 : vs.length ≤ 120) : qcounts vs b = (cntL b vs, 0) := by unfold qcounts; rw [if_pos h, if_pos h1]
theorem qc_len (vs b : List Int) : (qcounts vs b).1.length ≤ 9223372036854775807 := by
  unfold qcounts
  split
  · next h =>
    have := bnd_len h
    split
    · rw [cntL_len]; omega
    · simp
  · simp
def cntF (b vs : List Int) (n : Nat) : Nat → Nat → D := fun i _ => .val (.int .i64 (cntOf b vs n i))
theorem cntF_step (b vs : List Int) (n : Nat) {x : Int} {p : Nat} (hp : p = posOf b (vs.getD n 0)) (hx : x = cntOf b vs n p + 1) (i c : Nat) (hc : c < 1) : updR (cntF b vs n) p 0 [.val (.int .i64 x)] i c = cntF b vs (n + 1) i c := by
  obtain rfl : c = 0 := by omega
  unfold updR cntF
  simp only [cntOf]
  by_cases h : i = p
  · subst h; rw [if_pos (by simp), if_pos hp.symm, hx]; rfl
  · rw [if_neg (by simp [h]), if_neg (by rw [← hp]; omega), Int.add_zero]
theorem cntF_end (b vs : List Int) (i c : Nat) (hi : i < b.length + 1) : cntF b vs vs.length i c = intsF (cntL b vs) i c := by
  unfold cntF intsF; rw [cntL_at b vs hi]
theorem half_eq (a b : Nat) (h : a + b ≤ 1000) : SV.d (.val (.int .i64 (IntKind.i64.wrap ((IntKind.u64.wrap ((a : Int) + (b : Int))).fdiv (2 ^ min (Int.toNat 1) IntKind.u64.bits))))) = SV.i ((a + b) / 2 : Nat) := by
  refine congrArg SV.i ?_
  have e1 : IntKind.u64.wrap ((a : Int) + (b : Int)) = a + b := by simp [IntKind.wrap, IntKind.signed, IntKind.bits]; omega
  rw [e1]
  have e2 : ((a : Int) + b).fdiv (2 ^ min (Int.toNat 1) IntKind.u64.bits) = (((a + b) / 2 : Nat) : Int) := by
    show ((a : Int) + b).fdiv 2 = _
    rw [Int.fdiv_eq_ediv_of_nonneg _ (by decide)]; omega
  rw [e2]
  simp [IntKind.wrap, IntKind.signed, IntKind.bits]; omega
def refF (b vs : List Int) (i n : Nat) : Nat → Nat → D := fun k _ => .val (.int .i64 (if k < i then cntOf b vs vs.length k else if k = i then cntOf b vs n k else 0))
theorem refF_zero (b vs : List Int) (k c : Nat) : D.val (.int .i64 0) = refF b vs 0 0 k c := by
  unfold refF
  rw [if_neg (by omega)]
  simp [cntOf]
theorem refF_put (b vs : List Int) (i n : Nat) {x : Int} (hp : posOf b (vs.getD n 0) = i) (hx : x = cntOf b vs n i + 1) (k c : Nat) (hc : c < 1) : updR (refF b vs i n) i 0 [.val (.int .i64 x)] k c = refF b vs i (n + 1) k c := by
  obtain rfl : c = 0 := by omega
  unfold updR refF
  by_cases h : k = i
  · subst h
    rw [if_pos (by simp), if_neg (by omega), if_pos rfl, hx]
    simp only [cntOf, hp, if_true]; rfl
  · rw [if_neg (by simp [h])]
    simp only [if_neg h]
theorem refF_let (b vs : List Int) (i n : Nat) (hp : ¬ posOf b (vs.getD n 0) = i) (k c : Nat) : refF b vs i n k c = refF b vs i (n + 1) k c := by
  unfold refF
  by_cases h : k = i
  · subst h
    simp only [Nat.lt_irrefl, if_false, if_true, cntOf, if_neg hp, Int.add_zero]
  · simp only [if_neg h]
theorem refF_next (b vs : List Int) (i k c : Nat) : refF b vs i vs.length k c = refF b vs (i + 1) 0 k c := by
  unfold refF
  by_cases h : k < i
  · rw [if_pos h, if_pos (by omega)]
  · by_cases e : k = i
    · subst e; rw [if_neg h, if_pos rfl, if_pos (by omega)]
    · rw [if_neg h, if_neg e, if_neg (by omega)]
      by_cases e2 : k = i + 1
      · rw [if_pos e2]; rfl
      · rw [if_neg e2]
theorem refF_end (b vs : List Int) (k c : Nat) (hk : k < b.length + 1) : refF b vs (b.length + 1) 0 k c = intsF (cntL b vs) k c := by
  unfold refF intsF; rw [cntL_at b vs hk, if_pos hk]
def foundB (b : List Int) (v : Int) : Bool := decide (posOf b v < b.length) && decide (b.getD (posOf b v) 0 = v)

theorem nan64_any (x : Int) : Spec Try.prog G0 64 [SV.i x] [] (fun r ho => r = SV.b false ∧ ho = []) := by
  refine start 6 0 Try.func64 rfl rfl rfl rfl ?_
  refine r1 ?_
  refine s1 2 0 1 rfl rfl rfl rfl rfl rfl trivial ?_
  refine e1 8 rfl ?_
  refine keep [0] rfl ?_
  refine r1 ?_
  refine s1 3 8 1 rfl rfl rfl rfl rfl rfl trivial ?_
  refine s1 4 16 2 rfl rfl rfl rfl rfl rfl trivial ?_
  refine s1 5 24 3 rfl rfl rfl rfl rfl rfl (by first | trivial | omega | (simp only [List.length_map, List.length_append, List.length_cons, List.length_nil] at *; omega)) ?_
  refine s1 2 32 4 rfl rfl rfl rfl rfl rfl trivial ?_
  refine e1 40 rfl ?_
  refine keep [2] rfl ?_
  refine W_ret ?_
  exact out1 2 (SV.b false) (π := []) (hout := []) Try.results64 rfl (by first | rfl | (show SV.b _ = SV.b _; refine congrArg SV.b ?_; simp)) rfl rfl trivial ⟨rfl, rfl⟩

theorem nan55_any (x : Int) : Spec Try.prog G0 55 [SV.i x] [] (fun r ho => r = SV.b false ∧ ho = []) := by
  refine start 6 0 Try.func55 rfl rfl rfl rfl ?_
  refine r1 ?_
  refine s1 2 0 1 rfl rfl rfl rfl rfl rfl trivial ?_
  refine e1 8 rfl ?_
  refine keep [0] rfl ?_
  refine r1 ?_
  refine s1 3 8 1 rfl rfl rfl rfl rfl rfl trivial ?_
  refine s1 4 16 2 rfl rfl rfl rfl rfl rfl trivial ?_
  refine s1 5 24 3 rfl rfl rfl rfl rfl rfl (by first | trivial | omega | (simp only [List.length_map, List.length_append, List.length_cons, List.length_nil] at *; omega)) ?_
  refine s1 2 32 4 rfl rfl rfl rfl rfl rfl trivial ?_
  refine e1 40 rfl ?_
  refine keep [2] rfl ?_
  refine W_ret ?_
  exact out1 2 (SV.b false) (π := []) (hout := []) Try.results55 rfl (by first | rfl | (show SV.b _ = SV.b _; refine congrArg SV.b ?_; simp)) rfl rfl trivial ⟨rfl, rfl⟩

theorem less_any (x y : Int) : Spec Try.prog G0 54 [SV.i x, SV.i y] [] (fun r ho => r = SV.b (decide (x < y)) ∧ ho = []) := by
  refine start 17 0 Try.func54 rfl rfl rfl rfl ?_
  refine r1 ?_
  refine s1 4 0 1 rfl rfl rfl rfl rfl rfl trivial ?_
  refine e1 8 rfl ?_
  refine keep [0, 1] rfl ?_
  refine r1 ?_
  refine s1 5 8 1 rfl rfl rfl rfl rfl rfl trivial ?_
  refine c1 (nan64_any x) [] [] 6 16 2 rfl rfl rfl rfl rfl rfl rfl rfl Try.func64 rfl rfl rfl rfl trivial rfl rfl ?_
  refine s1 7 24 3 rfl rfl rfl rfl rfl rfl trivial ?_
  refine ask 7 rfl (fun hg1_7 => ?_) (fun hg1_7 => ?_)
  · skip
    try simp only [decide_eq_true_eq, decide_eq_false_iff_not, Bool.not_eq_true', Bool.not_eq_false', beq_iff_eq, bne_iff_ne, beq_eq_false_iff_ne, Bool.and_eq_true, Bool.or_eq_true, Bool.and_eq_false_iff, Bool.or_eq_false_iff, ge_iff_le, gt_iff_lt, Int.not_lt, Int.not_le, ne_eq, Decidable.not_not, bne_eq_false_iff_eq] at hg1_7
    exact absurd hg1_7 (by decide)
  · skip
    try simp only [decide_eq_true_eq, decide_eq_false_iff_not, Bool.not_eq_true', Bool.not_eq_false', beq_iff_eq, bne_iff_ne, beq_eq_false_iff_ne, Bool.and_eq_true, Bool.or_eq_true, Bool.and_eq_false_iff, Bool.or_eq_false_iff, ge_iff_le, gt_iff_lt, Int.not_lt, Int.not_le, ne_eq, Decidable.not_not, bne_eq_false_iff_eq] at hg1_7
    refine g0 2 true 7 8 4 rfl rfl rfl rfl rfl rfl ?_
    refine g0 2 true 7 9 5 rfl rfl rfl rfl rfl rfl ?_
    refine g0 2 true 7 10 6 rfl rfl rfl rfl rfl rfl ?_
    refine s1 11 56 7 rfl rfl rfl rfl rfl rfl trivial ?_
    refine s1 12 64 8 rfl rfl rfl rfl rfl rfl trivial ?_
    refine g1 7 false 12 13 9 rfl rfl rfl rfl rfl ?_
    refine s1 13 72 9 rfl rfl rfl rfl rfl rfl trivial ?_
    refine g1 7 false 12 14 10 rfl rfl rfl rfl rfl ?_
    refine s1 14 80 10 rfl rfl rfl rfl rfl rfl trivial ?_
    refine g1 7 false 12 15 11 rfl rfl rfl rfl rfl ?_
    refine s1 15 88 11 rfl rfl rfl rfl rfl rfl (by first | trivial | omega | (simp only [List.length_map, List.length_append, List.length_cons, List.length_nil] at *; omega)) ?_
    refine s1 16 96 12 rfl rfl rfl rfl rfl rfl trivial ?_
    refine s1 4 104 13 rfl rfl rfl rfl rfl rfl trivial ?_
    refine e1 112 rfl ?_
    refine keep [4] rfl ?_
    refine W_ret ?_
    exact out1 4 (SV.b (decide (x < y))) (π := []) (hout := []) Try.results54 rfl (by first | rfl | (simp at *; done)) rfl rfl trivial ⟨rfl, rfl⟩

theorem search_any (b : List Int) (v : Int) (hb : bndB b = true) : Spec Try.prog G0 35 [intsV b, SV.i v] [] (fun r ho => r = SV.tup [SV.i (posOf b v), SV.b (foundB b v)] ∧ ho = []) := by
  refine start 54 0 Try.func35 rfl rfl rfl rfl ?_
  refine r1 ?_
  refine s1 4 0 1 rfl rfl rfl rfl rfl rfl trivial ?_
  refine s1 5 8 2 rfl rfl rfl rfl rfl rfl trivial ?_
  refine e1 16 rfl ?_
  refine keep [0, 1] rfl ?_
  have hbl := bnd_len hb
  refine r1 ?_
  refine s1 10 16 1 rfl rfl rfl rfl rfl rfl trivial ?_
  refine s1 11 24 2 rfl rfl rfl rfl rfl rfl (by first | trivial | omega | (simp only [List.length_map, List.length_append, List.length_cons, List.length_nil] at *; omega)) ?_
  refine s1 6 32 3 rfl rfl rfl rfl rfl rfl trivial ?_
  refine e1 40 rfl ?_
  refine keep [0, 1, 6] rfl ?_
  refine r1 ?_
  refine s1 12 40 1 rfl rfl rfl rfl rfl rfl trivial ?_
  refine s1 7 48 2 rfl rfl rfl rfl rfl rfl trivial ?_
  refine s1 8 56 3 rfl rfl rfl rfl rfl rfl trivial ?_
  refine e1 64 rfl ?_
  refine keep [0, 1, 6, 7, 8] rfl ?_
  refine W_seq ?_
  refine W_block ?_
  refine loop (α := Nat × Nat) 0 (fun x => [(0, intsV b), (1, SV.i v), (6, SV.i b.length), (7, SV.i x.1), (8, SV.i x.2)]) (fun x => []) (fun x => x.1 ≤ x.2 ∧ x.2 ≤ b.length ∧ (∀ k, k < x.1 → b.getD k 0 < v) ∧ (x.2 < b.length → v ≤ b.getD x.2 0)) (fun x => x.2 - x.1) ((0, b.length)) [] (fun _ => rfl) ⟨Nat.zero_le _, Nat.le_refl _, fun k hk => by omega, fun h => by omega⟩ rfl ⟨rfl, rfl, rfl, rfl, rfl, trivial⟩ trivial (fun x hx => ?_)
  obtain ⟨h1, h2, h3, h4⟩ := hx
  refine W_seq ?_
  refine r1 ?_
  refine s1 13 0 1 rfl rfl rfl rfl rfl rfl trivial ?_
  refine s1 14 8 2 rfl rfl rfl rfl rfl rfl trivial ?_
  refine s1 15 16 3 rfl rfl rfl rfl rfl rfl (by first | trivial | omega | (simp only [List.length_map, List.length_append, List.length_cons, List.length_nil] at *; omega)) ?_
  refine e1 24 rfl ?_
  refine keep [0, 1, 6, 7, 8, 15] rfl ?_
  refine q1 rfl (fun hc3 => ?_) (fun hc3 => ?_)
  · skip
    try simp only [decide_eq_true_eq, decide_eq_false_iff_not, Bool.not_eq_true', Bool.not_eq_false', beq_iff_eq, bne_iff_ne, beq_eq_false_iff_ne, Bool.and_eq_true, Bool.or_eq_true, Bool.and_eq_false_iff, Bool.or_eq_false_iff, ge_iff_le, gt_iff_lt, Int.not_lt, Int.not_le, ne_eq, Decidable.not_not, bne_eq_false_iff_eq] at hc3
    refine W_skip ?_
    refine tn ?_
    refine W_block ?_
    refine r1 ?_
    refine s1 16 24 1 rfl rfl rfl rfl rfl rfl trivial ?_
    refine s1 17 32 2 rfl rfl rfl rfl rfl rfl trivial ?_
    refine sA 18 40 3 rfl rfl rfl rfl rfl rfl rfl rfl rfl (by unfold inRange; omega) ?_
    refine s1 19 48 4 rfl rfl rfl rfl rfl rfl trivial ?_
    refine s1 20 56 5 rfl rfl rfl rfl rfl rfl (by first | trivial | omega | (simp only [List.length_map, List.length_append, List.length_cons, List.length_nil] at *; omega)) ?_
    refine s1 21 64 6 rfl rfl rfl rfl rfl rfl trivial ?_
    refine val 21 (SV.i ((x.1 + x.2) / 2 : Nat)) rfl (half_eq x.1 x.2 (by omega)) ?_
    refine s1 9 72 7 rfl rfl rfl rfl rfl rfl trivial ?_
    refine e1 80 rfl ?_
    refine keep [0, 1, 6, 7, 8, 9] rfl ?_
    refine r1 ?_
    refine s1 22 80 1 rfl rfl rfl rfl rfl rfl trivial ?_
    refine s1 23 88 2 rfl rfl rfl rfl rfl rfl trivial ?_
    refine s1 24 96 3 rfl rfl rfl rfl rfl rfl (by first | trivial | omega | (simp only [List.length_map, List.length_append, List.length_cons, List.length_nil] at *; omega)) ?_
    refine s1 25 104 4 rfl rfl rfl rfl rfl rfl (by first | trivial | omega | (simp only [List.length_map, List.length_append, List.length_cons, List.length_nil] at *; omega)) ?_
    refine s1 26 112 5 rfl rfl rfl rfl rfl rfl trivial ?_
    refine c1 (less_any (b.getD ((x.1 + x.2) / 2) 0) v) [] [] 27 120 6 rfl rfl rfl rfl rfl rfl rfl rfl Try.func54 rfl rfl rfl rfl trivial rfl rfl ?_
    refine e1 128 rfl ?_
    refine keep [0, 1, 6, 7, 8, 9, 27] rfl ?_
    refine q1 rfl (fun hc5 => ?_) (fun hc5 => ?_)
    · skip
      try simp only [decide_eq_true_eq, decide_eq_false_iff_not, Bool.not_eq_true', Bool.not_eq_false', beq_iff_eq, bne_iff_ne, beq_eq_false_iff_ne, Bool.and_eq_true, Bool.or_eq_true, Bool.and_eq_false_iff, Bool.or_eq_false_iff, ge_iff_le, gt_iff_lt, Int.not_lt, Int.not_le, ne_eq, Decidable.not_not, bne_eq_false_iff_eq] at hc5
      refine r0 ?_
      refine s1 28 128 1 rfl rfl rfl rfl rfl rfl trivial ?_
      refine sA 29 136 2 rfl rfl rfl rfl rfl rfl rfl rfl rfl (by unfold inRange; omega) ?_
      refine s1 7 144 3 rfl rfl rfl rfl rfl rfl trivial ?_
      refine e1 152 rfl ?_
      refine bn ?_
      refine tn ?_
      exact again (((x.1 + x.2) / 2 + 1, x.2)) [] ⟨by simp only; omega, h2, fun k hk => by have hm : b.getD ((x.1 + x.2) / 2) 0 < v := hc5; by_cases e : k = (x.1 + x.2) / 2; (subst e; exact hm); have := asc_at hb ((x.1 + x.2) / 2) k (by simp only at hk; omega) (by omega); omega, h4⟩ (by simp only; omega) rfl ⟨rfl, rfl, rfl, rfl, rfl, trivial⟩ trivial
    · skip
      try simp only [decide_eq_true_eq, decide_eq_false_iff_not, Bool.not_eq_true', Bool.not_eq_false', beq_iff_eq, bne_iff_ne, beq_eq_false_iff_ne, Bool.and_eq_true, Bool.or_eq_true, Bool.and_eq_false_iff, Bool.or_eq_false_iff, ge_iff_le, gt_iff_lt, Int.not_lt, Int.not_le, ne_eq, Decidable.not_not, bne_eq_false_iff_eq] at hc5
      refine r0 ?_
      refine s1 30 128 1 rfl rfl rfl rfl rfl rfl trivial ?_
      refine s1 8 136 2 rfl rfl rfl rfl rfl rfl trivial ?_
      refine e1 144 rfl ?_
      refine bn ?_
      refine tn ?_
      exact again ((x.1, (x.1 + x.2) / 2)) [] ⟨by simp only; omega, by simp only; omega, h3, fun hk => hc5⟩ (by simp only; omega) rfl ⟨rfl, rfl, rfl, rfl, rfl, trivial⟩ trivial
  · skip
    try simp only [decide_eq_true_eq, decide_eq_false_iff_not, Bool.not_eq_true', Bool.not_eq_false', beq_iff_eq, bne_iff_ne, beq_eq_false_iff_ne, Bool.and_eq_true, Bool.or_eq_true, Bool.and_eq_false_iff, Bool.or_eq_false_iff, ge_iff_le, gt_iff_lt, Int.not_lt, Int.not_le, ne_eq, Decidable.not_not, bne_eq_false_iff_eq] at hc3
    refine W_exit ?_
    refine tx ?_
    refine tx ?_
    refine bx ?_
    refine tn ?_
    refine r1 ?_
    refine s1 31 24 1 rfl rfl rfl rfl rfl rfl trivial ?_
    refine s1 32 32 2 rfl rfl rfl rfl rfl rfl trivial ?_
    refine s1 33 40 3 rfl rfl rfl rfl rfl rfl trivial ?_
    refine s1 34 48 4 rfl rfl rfl rfl rfl rfl (by first | trivial | omega | (simp only [List.length_map, List.length_append, List.length_cons, List.length_nil] at *; omega)) ?_
    refine s1 35 56 5 rfl rfl rfl rfl rfl rfl trivial ?_
    refine ask 35 rfl (fun hg8_35 => ?_) (fun hg8_35 => ?_)
    · skip
      try simp only [decide_eq_true_eq, decide_eq_false_iff_not, Bool.not_eq_true', Bool.not_eq_false', beq_iff_eq, bne_iff_ne, beq_eq_false_iff_ne, Bool.and_eq_true, Bool.or_eq_true, Bool.and_eq_false_iff, Bool.or_eq_false_iff, ge_iff_le, gt_iff_lt, Int.not_lt, Int.not_le, ne_eq, Decidable.not_not, bne_eq_false_iff_eq] at hg8_35
      refine g1 4 true 35 36 6 rfl rfl rfl rfl rfl ?_
      refine s1 36 64 6 rfl rfl rfl rfl rfl rfl trivial ?_
      refine g1 4 true 35 37 7 rfl rfl rfl rfl rfl ?_
      refine s1 37 72 7 rfl rfl rfl rfl rfl rfl trivial ?_
      refine g1 4 true 35 38 8 rfl rfl rfl rfl rfl ?_
      refine s1 38 80 8 rfl rfl rfl rfl rfl rfl (by first | trivial | omega | (simp only [List.length_map, List.length_append, List.length_cons, List.length_nil] at *; omega)) ?_
      refine g1 4 true 35 39 9 rfl rfl rfl rfl rfl ?_
      refine s1 39 88 9 rfl rfl rfl rfl rfl rfl (by first | trivial | omega | (simp only [List.length_map, List.length_append, List.length_cons, List.length_nil] at *; omega)) ?_
      refine g1 4 true 35 40 10 rfl rfl rfl rfl rfl ?_
      refine s1 40 96 10 rfl rfl rfl rfl rfl rfl trivial ?_
      refine g1 4 true 35 41 11 rfl rfl rfl rfl rfl ?_
      refine s1 41 104 11 rfl rfl rfl rfl rfl rfl (by first | trivial | omega | (simp only [List.length_map, List.length_append, List.length_cons, List.length_nil] at *; omega)) ?_
      refine g1 4 true 35 42 12 rfl rfl rfl rfl rfl ?_
      refine s1 42 112 12 rfl rfl rfl rfl rfl rfl trivial ?_
      refine ask 42 rfl (fun hg8_42 => ?_) (fun hg8_42 => ?_)
      · skip
        try simp only [decide_eq_true_eq, decide_eq_false_iff_not, Bool.not_eq_true', Bool.not_eq_false', beq_iff_eq, bne_iff_ne, beq_eq_false_iff_ne, Bool.and_eq_true, Bool.or_eq_true, Bool.and_eq_false_iff, Bool.or_eq_false_iff, ge_iff_le, gt_iff_lt, Int.not_lt, Int.not_le, ne_eq, Decidable.not_not, bne_eq_false_iff_eq] at hg8_42
        refine g0 11 false 42 43 13 rfl rfl rfl rfl rfl rfl ?_
        refine g0 11 false 42 44 14 rfl rfl rfl rfl rfl rfl ?_
        refine g0 11 false 42 45 15 rfl rfl rfl rfl rfl rfl ?_
        refine g0 11 false 42 46 16 rfl rfl rfl rfl rfl rfl ?_
        refine g0 11 false 42 47 17 rfl rfl rfl rfl rfl rfl ?_
        refine g0 11 false 42 48 18 rfl rfl rfl rfl rfl rfl ?_
        refine gz 17 true 48 49 19 rfl rfl rfl rfl rfl rfl ?_
        refine gz 17 true 48 50 20 rfl rfl rfl rfl rfl rfl ?_
        refine g0 11 false 42 51 21 rfl rfl rfl rfl rfl rfl ?_
        refine g1 4 true 35 52 22 rfl rfl rfl rfl rfl ?_
        refine s1 52 192 22 rfl rfl rfl rfl rfl rfl trivial ?_
        refine s1 53 200 23 rfl rfl rfl rfl rfl rfl trivial ?_
        refine s1 4 208 24 rfl rfl rfl rfl rfl rfl trivial ?_
        refine s1 5 216 25 rfl rfl rfl rfl rfl rfl trivial ?_
        refine e1 224 rfl ?_
        refine keep [4, 5] rfl ?_
        refine W_ret ?_
        have hp : posOf b v = x.1 := pos_eq (by omega) h3 (fun h => by have e : x.2 = x.1 := (by omega); rw [e] at h4; exact h4 h)
        exact out2 4 5 (SV.i (posOf b v)) (SV.b (foundB b v)) (π := []) (hout := []) Try.results35 rfl rfl (by rw [hp]; rfl) (by show SV.b _ = SV.b _; refine congrArg SV.b ?_; unfold foundB; rw [hp]; (try simp only [Int.toNat_natCast] at *); rw [Bool.eq_iff_iff, Bool.and_eq_true, decide_eq_true_eq, decide_eq_true_eq]; constructor <;> intro hh <;> first | rfl | omega | (exfalso; omega) | (simp at hh; done) | (simp at hh; omega)) rfl rfl trivial ⟨rfl, rfl⟩
      · skip
        try simp only [decide_eq_true_eq, decide_eq_false_iff_not, Bool.not_eq_true', Bool.not_eq_false', beq_iff_eq, bne_iff_ne, beq_eq_false_iff_ne, Bool.and_eq_true, Bool.or_eq_true, Bool.and_eq_false_iff, Bool.or_eq_false_iff, ge_iff_le, gt_iff_lt, Int.not_lt, Int.not_le, ne_eq, Decidable.not_not, bne_eq_false_iff_eq] at hg8_42
        refine g1 11 false 42 43 13 rfl rfl rfl rfl rfl ?_
        refine s1 43 120 13 rfl rfl rfl rfl rfl rfl trivial ?_
        refine g1 11 false 42 44 14 rfl rfl rfl rfl rfl ?_
        refine s1 44 128 14 rfl rfl rfl rfl rfl rfl trivial ?_
        refine g1 11 false 42 45 15 rfl rfl rfl rfl rfl ?_
        refine s1 45 136 15 rfl rfl rfl rfl rfl rfl (by first | trivial | omega | (simp only [List.length_map, List.length_append, List.length_cons, List.length_nil] at *; omega)) ?_
        refine g1 11 false 42 46 16 rfl rfl rfl rfl rfl ?_
        refine s1 46 144 16 rfl rfl rfl rfl rfl rfl (by first | trivial | omega | (simp only [List.length_map, List.length_append, List.length_cons, List.length_nil] at *; omega)) ?_
        refine g1 11 false 42 47 17 rfl rfl rfl rfl rfl ?_
        refine c1 (nan55_any (b.getD x.1 0)) [] [] 47 152 17 rfl rfl rfl rfl rfl rfl rfl rfl Try.func55 rfl rfl rfl rfl trivial rfl rfl ?_
        refine g1 11 false 42 48 18 rfl rfl rfl rfl rfl ?_
        refine s1 48 160 18 rfl rfl rfl rfl rfl rfl trivial ?_
        refine ask 48 rfl (fun hg8_48 => ?_) (fun hg8_48 => ?_)
        · skip
          try simp only [decide_eq_true_eq, decide_eq_false_iff_not, Bool.not_eq_true', Bool.not_eq_false', beq_iff_eq, bne_iff_ne, beq_eq_false_iff_ne, Bool.and_eq_true, Bool.or_eq_true, Bool.and_eq_false_iff, Bool.or_eq_false_iff, ge_iff_le, gt_iff_lt, Int.not_lt, Int.not_le, ne_eq, Decidable.not_not, bne_eq_false_iff_eq] at hg8_48
          exact absurd hg8_48 (by decide)
        · skip
          try simp only [decide_eq_true_eq, decide_eq_false_iff_not, Bool.not_eq_true', Bool.not_eq_false', beq_iff_eq, bne_iff_ne, beq_eq_false_iff_ne, Bool.and_eq_true, Bool.or_eq_true, Bool.and_eq_false_iff, Bool.or_eq_false_iff, ge_iff_le, gt_iff_lt, Int.not_lt, Int.not_le, ne_eq, Decidable.not_not, bne_eq_false_iff_eq] at hg8_48
          refine g0 17 true 48 49 19 rfl rfl rfl rfl rfl rfl ?_
          refine g0 17 true 48 50 20 rfl rfl rfl rfl rfl rfl ?_
          refine g1 11 false 42 51 21 rfl rfl rfl rfl rfl ?_
          refine s1 51 184 21 rfl rfl rfl rfl rfl rfl trivial ?_
          refine g1 4 true 35 52 22 rfl rfl rfl rfl rfl ?_
          refine s1 52 192 22 rfl rfl rfl rfl rfl rfl trivial ?_
          refine s1 53 200 23 rfl rfl rfl rfl rfl rfl trivial ?_
          refine s1 4 208 24 rfl rfl rfl rfl rfl rfl trivial ?_
          refine s1 5 216 25 rfl rfl rfl rfl rfl rfl trivial ?_
          refine e1 224 rfl ?_
          refine keep [4, 5] rfl ?_
          refine W_ret ?_
          have hp : posOf b v = x.1 := pos_eq (by omega) h3 (fun h => by have e : x.2 = x.1 := (by omega); rw [e] at h4; exact h4 h)
          exact out2 4 5 (SV.i (posOf b v)) (SV.b (foundB b v)) (π := []) (hout := []) Try.results35 rfl rfl (by rw [hp]; rfl) (by show SV.b _ = SV.b _; refine congrArg SV.b ?_; unfold foundB; rw [hp]; (try simp only [Int.toNat_natCast] at *); rw [Bool.eq_iff_iff, Bool.and_eq_true, decide_eq_true_eq, decide_eq_true_eq]; constructor <;> intro hh <;> first | rfl | omega | (exfalso; omega) | (simp at hh; done) | (simp at hh; omega)) rfl rfl trivial ⟨rfl, rfl⟩
    · skip
      try simp only [decide_eq_true_eq, decide_eq_false_iff_not, Bool.not_eq_true', Bool.not_eq_false', beq_iff_eq, bne_iff_ne, beq_eq_false_iff_ne, Bool.and_eq_true, Bool.or_eq_true, Bool.and_eq_false_iff, Bool.or_eq_false_iff, ge_iff_le, gt_iff_lt, Int.not_lt, Int.not_le, ne_eq, Decidable.not_not, bne_eq_false_iff_eq] at hg8_35
      refine g0 4 true 35 36 6 rfl rfl rfl rfl rfl rfl ?_
      refine g0 4 true 35 37 7 rfl rfl rfl rfl rfl rfl ?_
      refine g0 4 true 35 38 8 rfl rfl rfl rfl rfl rfl ?_
      refine g0 4 true 35 39 9 rfl rfl rfl rfl rfl rfl ?_
      refine g0 4 true 35 40 10 rfl rfl rfl rfl rfl rfl ?_
      refine g0 4 true 35 41 11 rfl rfl rfl rfl rfl rfl ?_
      refine g0 4 true 35 42 12 rfl rfl rfl rfl rfl rfl ?_
      refine gz 11 false 42 43 13 rfl rfl rfl rfl rfl rfl ?_
      refine gz 11 false 42 44 14 rfl rfl rfl rfl rfl rfl ?_
      refine gz 11 false 42 45 15 rfl rfl rfl rfl rfl rfl ?_
      refine gz 11 false 42 46 16 rfl rfl rfl rfl rfl rfl ?_
      refine gz 11 false 42 47 17 rfl rfl rfl rfl rfl rfl ?_
      refine gz 11 false 42 48 18 rfl rfl rfl rfl rfl rfl ?_
      refine gz 17 true 48 49 19 rfl rfl rfl rfl rfl rfl ?_
      refine gz 17 true 48 50 20 rfl rfl rfl rfl rfl rfl ?_
      refine gz 11 false 42 51 21 rfl rfl rfl rfl rfl rfl ?_
      refine g0 4 true 35 52 22 rfl rfl rfl rfl rfl rfl ?_
      refine s1 53 200 23 rfl rfl rfl rfl rfl rfl trivial ?_
      refine s1 4 208 24 rfl rfl rfl rfl rfl rfl trivial ?_
      refine s1 5 216 25 rfl rfl rfl rfl rfl rfl trivial ?_
      refine e1 224 rfl ?_
      refine keep [4, 5] rfl ?_
      refine W_ret ?_
      have hp : posOf b v = x.1 := pos_eq (by omega) h3 (fun h => by have e : x.2 = x.1 := (by omega); rw [e] at h4; exact h4 h)
      exact out2 4 5 (SV.i (posOf b v)) (SV.b (foundB b v)) (π := []) (hout := []) Try.results35 rfl rfl (by rw [hp]; rfl) (by show SV.b _ = SV.b _; refine congrArg SV.b ?_; unfold foundB; rw [hp]; (try simp only [Int.toNat_natCast] at *); rw [Bool.eq_iff_iff, Bool.and_eq_true, decide_eq_true_eq, decide_eq_true_eq]; constructor <;> intro hh <;> first | rfl | omega | (exfalso; omega) | (simp at hh; done) | (simp at hh; omega)) rfl rfl trivial ⟨rfl, rfl⟩

theorem counts_any (vs b : List Int) (hvs : vs.length ≤ 9223372036854775807) (hbs : b.length ≤ 9223372036854775807) : Spec Try.prog G0 16 [intsV vs, intsV b] [] (fun r ho => r = SV.tup [intsV (qcounts vs b).1, SV.i (qcounts vs b).2] ∧ ho = []) := by
  refine start 43 0 Try.func16 rfl rfl rfl rfl ?_
  refine r1 ?_
  refine s1 4 0 1 rfl rfl rfl rfl rfl rfl trivial ?_
  refine s1 5 8 2 rfl rfl rfl rfl rfl rfl trivial ?_
  refine e1 16 rfl ?_
  refine keep [0, 1] rfl ?_
  refine W_seq ?_
  refine W_block ?_
  refine r1 ?_
  refine s1 12 16 1 rfl rfl rfl rfl rfl rfl trivial ?_
  refine c1 (bounded_any b hbs) [] [] 13 24 2 rfl rfl rfl rfl rfl rfl rfl rfl Try.func30 rfl rfl rfl rfl trivial rfl rfl ?_
  refine s1 14 32 3 rfl rfl rfl rfl rfl rfl trivial ?_
  refine s1 11 40 4 rfl rfl rfl rfl rfl rfl trivial ?_
  refine e1 48 rfl ?_
  refine keep [0, 1, 11] rfl ?_
  refine q1 rfl (fun hc1 => ?_) (fun hc1 => ?_)
  · skip
    try simp only [decide_eq_true_eq, decide_eq_false_iff_not, Bool.not_eq_true', Bool.not_eq_false', beq_iff_eq, bne_iff_ne, beq_eq_false_iff_ne, Bool.and_eq_true, Bool.or_eq_true, Bool.and_eq_false_iff, Bool.or_eq_false_iff, ge_iff_le, gt_iff_lt, Int.not_lt, Int.not_le, ne_eq, Decidable.not_not, bne_eq_false_iff_eq] at hc1
    refine r1 ?_
    refine s1 4 48 1 rfl rfl rfl rfl rfl rfl trivial ?_
    refine s1 5 56 2 rfl rfl rfl rfl rfl rfl trivial ?_
    refine e1 64 rfl ?_
    refine keep [4, 5] rfl ?_
    refine nilv 4 1 (intsF []) rfl ?_
    refine W_ret ?_
    refine br ?_
    refine tr ?_
    exact out2 4 5 (intsV (qcounts vs b).1) (SV.i (qcounts vs b).2) (π := []) (hout := []) Try.results16 rfl rfl (by rw [qc_form hc1]; rfl) (by rw [qc_form hc1]; rfl) rfl rfl trivial ⟨rfl, rfl⟩
  · skip
    try simp only [decide_eq_true_eq, decide_eq_false_iff_not, Bool.not_eq_true', Bool.not_eq_false', beq_iff_eq, bne_iff_ne, beq_eq_false_iff_ne, Bool.and_eq_true, Bool.or_eq_true, Bool.and_eq_false_iff, Bool.or_eq_false_iff, ge_iff_le, gt_iff_lt, Int.not_lt, Int.not_le, ne_eq, Decidable.not_not, bne_eq_false_iff_eq] at hc1
    refine r1 ?_
    refine s1 16 48 1 rfl rfl rfl rfl rfl rfl trivial ?_
    refine s1 17 56 2 rfl rfl rfl rfl rfl rfl (by first | trivial | omega | (simp only [List.length_map, List.length_append, List.length_cons, List.length_nil] at *; omega)) ?_
    refine s1 18 64 3 rfl rfl rfl rfl rfl rfl (by first | trivial | omega | (simp only [List.length_map, List.length_append, List.length_cons, List.length_nil] at *; omega)) ?_
    refine s1 15 72 4 rfl rfl rfl rfl rfl rfl trivial ?_
    refine e1 80 rfl ?_
    refine keep [0, 1, 15] rfl ?_
    refine q1 rfl (fun hc3 => ?_) (fun hc3 => ?_)
    · skip
      try simp only [decide_eq_true_eq, decide_eq_false_iff_not, Bool.not_eq_true', Bool.not_eq_false', beq_iff_eq, bne_iff_ne, beq_eq_false_iff_ne, Bool.and_eq_true, Bool.or_eq_true, Bool.and_eq_false_iff, Bool.or_eq_false_iff, ge_iff_le, gt_iff_lt, Int.not_lt, Int.not_le, ne_eq, Decidable.not_not, bne_eq_false_iff_eq] at hc3
      refine r1 ?_
      refine s1 4 80 1 rfl rfl rfl rfl rfl rfl trivial ?_
      refine s1 5 88 2 rfl rfl rfl rfl rfl rfl trivial ?_
      refine e1 96 rfl ?_
      refine keep [4, 5] rfl ?_
      refine nilv 4 1 (intsF []) rfl ?_
      refine W_ret ?_
      refine br ?_
      refine tr ?_
      exact out2 4 5 (intsV (qcounts vs b).1) (SV.i (qcounts vs b).2) (π := []) (hout := []) Try.results16 rfl rfl (by rw [qc_size hc1 (by omega)]; rfl) (by rw [qc_size hc1 (by omega)]; rfl) rfl rfl trivial ⟨rfl, rfl⟩
    · skip
      try simp only [decide_eq_true_eq, decide_eq_false_iff_not, Bool.not_eq_true', Bool.not_eq_false', beq_iff_eq, bne_iff_ne, beq_eq_false_iff_ne, Bool.and_eq_true, Bool.or_eq_true, Bool.and_eq_false_iff, Bool.or_eq_false_iff, ge_iff_le, gt_iff_lt, Int.not_lt, Int.not_le, ne_eq, Decidable.not_not, bne_eq_false_iff_eq] at hc3
      refine W_skip ?_
      refine bn ?_
      refine tn ?_
      have hB := hc1
      have hBL := bnd_len hB
      refine r1 ?_
      refine s1 19 80 1 rfl rfl rfl rfl rfl rfl trivial ?_
      refine s1 20 88 2 rfl rfl rfl rfl rfl rfl (by first | trivial | omega | (simp only [List.length_map, List.length_append, List.length_cons, List.length_nil] at *; omega)) ?_
      refine sA 21 96 3 rfl rfl rfl rfl rfl rfl rfl rfl rfl (by have := bnd_len hB; unfold inRange; omega) ?_
      refine s1 22 104 4 rfl rfl rfl rfl rfl rfl ⟨by omega, rfl, (by show ((b.length : Int) + 1) * 8 ≤ 140737488355328; omega), by omega⟩ ?_
      refine s1 6 112 5 rfl rfl rfl rfl rfl rfl trivial ?_
      refine e1 120 rfl ?_
      refine keep [0, 1, 6] rfl ?_
      refine W_seq ?_
      refine r1 ?_
      refine s1 23 120 1 rfl rfl rfl rfl rfl rfl trivial ?_
      refine s1 24 128 2 rfl rfl rfl rfl rfl rfl (by first | trivial | omega | (simp only [List.length_map, List.length_append, List.length_cons, List.length_nil] at *; omega)) ?_
      refine s1 25 136 3 rfl rfl rfl rfl rfl rfl trivial ?_
      refine e1 144 rfl ?_
      refine keep [1, 6, 23, 24, 25] rfl ?_
      refine W_block ?_
      refine rowsc 104 (b.length + 1) (cntF b vs 0) rfl (by omega) (fun i c hi hc => by obtain rfl : c = 0 := (by have hc1 : c < 1 := hc; omega); rfl) ?_
      refine loop (α := Nat) 1 (fun n => [(1, intsV b), (6, .sl 0 0 (b.length + 1)), (23, intsV vs), (24, SV.i vs.length), (25, SV.i n)]) (fun n => [some (.rows 3 1 (b.length + 1) (cntF b vs n))]) (fun n => n ≤ vs.length) (fun n => vs.length - n) (0) [104] (fun _ => rfl) (Nat.zero_le _) rfl ⟨rfl, rfl, rfl, rfl, rfl, trivial⟩ ⟨rfl, trivial⟩ (fun n hx => ?_)
      refine r1 ?_
      refine s1 26 1 1 rfl rfl rfl rfl rfl rfl (by first | trivial | omega | (simp only [List.length_map, List.length_append, List.length_cons, List.length_nil] at *; omega)) ?_
      refine e1 9 rfl ?_
      refine keep [1, 6, 23, 24, 25, 26] rfl ?_
      refine W_seq ?_
      refine q1 rfl (fun hc7 => ?_) (fun hc7 => ?_)
      · skip
        try simp only [decide_eq_true_eq, decide_eq_false_iff_not, Bool.not_eq_true', Bool.not_eq_false', beq_iff_eq, bne_iff_ne, beq_eq_false_iff_ne, Bool.and_eq_true, Bool.or_eq_true, Bool.and_eq_false_iff, Bool.or_eq_false_iff, ge_iff_le, gt_iff_lt, Int.not_lt, Int.not_le, ne_eq, Decidable.not_not, bne_eq_false_iff_eq] at hc7
        refine W_skip ?_
        refine tn ?_
        refine W_seq ?_
        refine W_block ?_
        refine r1 ?_
        refine s1 27 9 1 rfl rfl rfl rfl rfl rfl (by first | trivial | omega | (simp only [List.length_map, List.length_append, List.length_cons, List.length_nil] at *; omega)) ?_
        refine s1 28 17 2 rfl rfl rfl rfl rfl rfl (by first | trivial | omega | (simp only [List.length_map, List.length_append, List.length_cons, List.length_nil] at *; omega)) ?_
        refine s1 8 25 3 rfl rfl rfl rfl rfl rfl trivial ?_
        refine e1 33 rfl ?_
        refine keep [1, 6, 8, 23, 24, 25] rfl ?_
        refine r1 ?_
        refine s1 30 33 1 rfl rfl rfl rfl rfl rfl trivial ?_
        refine s1 31 41 2 rfl rfl rfl rfl rfl rfl trivial ?_
        refine c1 (search_any b (vs.getD n 0) hB) [] [] 32 49 3 rfl rfl rfl rfl rfl rfl rfl rfl Try.func35 rfl rfl rfl rfl trivial rfl rfl ?_
        refine s1 29 57 4 rfl rfl rfl rfl rfl rfl trivial ?_
        refine s1 33 65 5 rfl rfl rfl rfl rfl rfl trivial ?_
        refine s1 34 73 6 rfl rfl rfl rfl rfl rfl trivial ?_
        refine s1 9 81 7 rfl rfl rfl rfl rfl rfl trivial ?_
        refine s1 10 89 8 rfl rfl rfl rfl rfl rfl trivial ?_
        refine e1 97 rfl ?_
        refine keep [1, 6, 9, 23, 24, 25] rfl ?_
        refine r0 ?_
        refine s1 35 97 1 rfl rfl rfl rfl rfl rfl trivial ?_
        refine s1 36 105 2 rfl rfl rfl rfl rfl rfl trivial ?_
        refine s1 37 113 3 rfl rfl rfl rfl rfl rfl (by have := pos_le b (vs.getD n 0); omega) ?_
        refine s1 38 121 4 rfl rfl rfl rfl rfl rfl (by have := pos_le b (vs.getD n 0); simp only [Int.toNat_natCast]; omega) ?_
        refine sA 39 129 5 rfl rfl rfl rfl rfl rfl rfl rfl rfl (by have h1 := cnt_in b vs (0 + posOf b (vs.getD n 0)) n; simp only [Int.toNat_natCast]; unfold inRange; omega) ?_
        refine s1 40 137 6 rfl rfl rfl rfl rfl rfl (by have := pos_le b (vs.getD n 0); omega) ?_
        refine s0 145 7 rfl rfl rfl rfl rfl (by have := pos_le b (vs.getD n 0); simp only [Int.toNat_natCast]; omega) ?_
        refine e1 153 rfl ?_
        refine bn ?_
        refine tn ?_
        refine rowsc 0 (b.length + 1) (cntF b vs (n + 1)) rfl rfl (fun i c hi hc => by simp only [Int.toNat_natCast, Nat.zero_add]; exact cntF_step b vs n rfl rfl i c hc) ?_
        refine r0 ?_
        refine sA 41 153 1 rfl rfl rfl rfl rfl rfl rfl rfl rfl (by unfold inRange; omega) ?_
        refine s1 25 161 2 rfl rfl rfl rfl rfl rfl trivial ?_
        refine e1 169 rfl ?_
        refine tn ?_
        exact again (n + 1) [0] (by omega) (by omega) rfl ⟨rfl, rfl, rfl, rfl, rfl, trivial⟩ ⟨rfl, trivial⟩
      · skip
        try simp only [decide_eq_true_eq, decide_eq_false_iff_not, Bool.not_eq_true', Bool.not_eq_false', beq_iff_eq, bne_iff_ne, beq_eq_false_iff_ne, Bool.and_eq_true, Bool.or_eq_true, Bool.and_eq_false_iff, Bool.or_eq_false_iff, ge_iff_le, gt_iff_lt, Int.not_lt, Int.not_le, ne_eq, Decidable.not_not, bne_eq_false_iff_eq] at hc7
        refine W_exit ?_
        refine tx ?_
        refine tx ?_
        refine bx ?_
        refine tn ?_
        obtain rfl : n = vs.length := (by omega)
        refine rowsc 0 (b.length + 1) (intsF (cntL b vs)) rfl rfl (fun i c hi hc => cntF_end b vs i c hi) ?_
        refine freeze 6 0 (b.length + 1) rfl rfl (Nat.le_refl _) ?_
        refine vecc 6 (cntL b vs).length (intsF (cntL b vs)) rfl (by rw [cntL_len]) (fun i c hi hc => rfl) ?_
        refine r1 ?_
        refine s1 42 9 1 rfl rfl rfl rfl rfl rfl trivial ?_
        refine s1 4 17 2 rfl rfl rfl rfl rfl rfl trivial ?_
        refine s1 5 25 3 rfl rfl rfl rfl rfl rfl trivial ?_
        refine e1 33 rfl ?_
        refine keep [4, 5] rfl ?_
        refine W_ret ?_
        exact out2 4 5 (intsV (qcounts vs b).1) (SV.i (qcounts vs b).2) (π := []) (hout := []) Try.results16 rfl rfl (by rw [qc_ok hB (by omega)]; rfl) (by rw [qc_ok hB (by omega)]; rfl) rfl rfl trivial ⟨rfl, rfl⟩

theorem refCounts_any (vs b : List Int) (hvs : vs.length ≤ 9223372036854775807) (hbs : b.length ≤ 9223372036854775807) : Spec Try.prog G0 17 [intsV vs, intsV b] [] (fun r ho => r = SV.tup [intsV (qcounts vs b).1, SV.i (qcounts vs b).2] ∧ ho = []) := by
  refine start 65 0 Try.func17 rfl rfl rfl rfl ?_
  refine r1 ?_
  refine s1 4 0 1 rfl rfl rfl rfl rfl rfl trivial ?_
  refine s1 5 8 2 rfl rfl rfl rfl rfl rfl trivial ?_
  refine e1 16 rfl ?_
  refine keep [0, 1] rfl ?_
  refine W_seq ?_
  refine r1 ?_
  refine s1 10 16 1 rfl rfl rfl rfl rfl rfl trivial ?_
  refine c1 (boundsMay_any b hbs) [] [] 11 24 2 rfl rfl rfl rfl rfl rfl rfl rfl Try.func32 rfl rfl rfl rfl trivial rfl rfl ?_
  refine s1 12 32 3 rfl rfl rfl rfl rfl rfl trivial ?_
  refine e1 40 rfl ?_
  refine keep [0, 1, 12] rfl ?_
  refine q1 rfl (fun hc1 => ?_) (fun hc1 => ?_)
  · skip
    try simp only [decide_eq_true_eq, decide_eq_false_iff_not, Bool.not_eq_true', Bool.not_eq_false', beq_iff_eq, bne_iff_ne, beq_eq_false_iff_ne, Bool.and_eq_true, Bool.or_eq_true, Bool.and_eq_false_iff, Bool.or_eq_false_iff, ge_iff_le, gt_iff_lt, Int.not_lt, Int.not_le, ne_eq, Decidable.not_not, bne_eq_false_iff_eq] at hc1
    refine r1 ?_
    refine s1 4 40 1 rfl rfl rfl rfl rfl rfl trivial ?_
    refine s1 5 48 2 rfl rfl rfl rfl rfl rfl trivial ?_
    refine e1 56 rfl ?_
    refine keep [4, 5] rfl ?_
    refine nilv 4 1 (intsF []) rfl ?_
    refine W_ret ?_
    refine tr ?_
    exact out2 4 5 (intsV (qcounts vs b).1) (SV.i (qcounts vs b).2) (π := []) (hout := []) Try.results17 rfl rfl (by rw [qc_form hc1]; rfl) (by rw [qc_form hc1]; rfl) rfl rfl trivial ⟨rfl, rfl⟩
  · skip
    try simp only [decide_eq_true_eq, decide_eq_false_iff_not, Bool.not_eq_true', Bool.not_eq_false', beq_iff_eq, bne_iff_ne, beq_eq_false_iff_ne, Bool.and_eq_true, Bool.or_eq_true, Bool.and_eq_false_iff, Bool.or_eq_false_iff, ge_iff_le, gt_iff_lt, Int.not_lt, Int.not_le, ne_eq, Decidable.not_not, bne_eq_false_iff_eq] at hc1
    refine W_skip ?_
    refine tn ?_
    refine W_seq ?_
    refine r1 ?_
    refine s1 13 40 1 rfl rfl rfl rfl rfl rfl trivial ?_
    refine s1 14 48 2 rfl rfl rfl rfl rfl rfl (by first | trivial | omega | (simp only [List.length_map, List.length_append, List.length_cons, List.length_nil] at *; omega)) ?_
    refine s1 15 56 3 rfl rfl rfl rfl rfl rfl (by first | trivial | omega | (simp only [List.length_map, List.length_append, List.length_cons, List.length_nil] at *; omega)) ?_
    refine e1 64 rfl ?_
    refine keep [0, 1, 15] rfl ?_
    refine q1 rfl (fun hc3 => ?_) (fun hc3 => ?_)
    · skip
      try simp only [decide_eq_true_eq, decide_eq_false_iff_not, Bool.not_eq_true', Bool.not_eq_false', beq_iff_eq, bne_iff_ne, beq_eq_false_iff_ne, Bool.and_eq_true, Bool.or_eq_true, Bool.and_eq_false_iff, Bool.or_eq_false_iff, ge_iff_le, gt_iff_lt, Int.not_lt, Int.not_le, ne_eq, Decidable.not_not, bne_eq_false_iff_eq] at hc3
      refine r1 ?_
      refine s1 4 64 1 rfl rfl rfl rfl rfl rfl trivial ?_
      refine s1 5 72 2 rfl rfl rfl rfl rfl rfl trivial ?_
      refine e1 80 rfl ?_
      refine keep [4, 5] rfl ?_
      refine nilv 4 1 (intsF []) rfl ?_
      refine W_ret ?_
      refine tr ?_
      exact out2 4 5 (intsV (qcounts vs b).1) (SV.i (qcounts vs b).2) (π := []) (hout := []) Try.results17 rfl rfl (by rw [qc_size hc1 (by omega)]; rfl) (by rw [qc_size hc1 (by omega)]; rfl) rfl rfl trivial ⟨rfl, rfl⟩
    · skip
      try simp only [decide_eq_true_eq, decide_eq_false_iff_not, Bool.not_eq_true', Bool.not_eq_false', beq_iff_eq, bne_iff_ne, beq_eq_false_iff_ne, Bool.and_eq_true, Bool.or_eq_true, Bool.and_eq_false_iff, Bool.or_eq_false_iff, ge_iff_le, gt_iff_lt, Int.not_lt, Int.not_le, ne_eq, Decidable.not_not, bne_eq_false_iff_eq] at hc3
      refine W_skip ?_
      refine tn ?_
      have hB := hc1
      have hBL := bnd_len hB
      refine r1 ?_
      refine s1 16 64 1 rfl rfl rfl rfl rfl rfl trivial ?_
      refine s1 17 72 2 rfl rfl rfl rfl rfl rfl (by first | trivial | omega | (simp only [List.length_map, List.length_append, List.length_cons, List.length_nil] at *; omega)) ?_
      refine sA 18 80 3 rfl rfl rfl rfl rfl rfl rfl rfl rfl (by have := bnd_len hB; unfold inRange; omega) ?_
      refine s1 19 88 4 rfl rfl rfl rfl rfl rfl ⟨by omega, rfl, (by show ((b.length : Int) + 1) * 8 ≤ 140737488355328; omega), by omega⟩ ?_
      refine s1 6 96 5 rfl rfl rfl rfl rfl rfl trivial ?_
      refine e1 104 rfl ?_
      refine keep [0, 1, 6] rfl ?_
      refine W_seq ?_
      refine r1 ?_
      refine s1 20 104 1 rfl rfl rfl rfl rfl rfl trivial ?_
      refine s1 21 112 2 rfl rfl rfl rfl rfl rfl (by first | trivial | omega | (simp only [List.length_map, List.length_append, List.length_cons, List.length_nil] at *; omega)) ?_
      refine s1 22 120 3 rfl rfl rfl rfl rfl rfl trivial ?_
      refine e1 128 rfl ?_
      refine keep [0, 1, 6, 21, 22] rfl ?_
      refine W_block ?_
      refine rowsc 88 (b.length + 1) (refF b vs 0 0) rfl (by omega) (fun k c hk hc => by obtain rfl : c = 0 := (by have hc1 : c < 1 := hc; omega); exact refF_zero b vs k 0) ?_
      refine loop (α := Nat) 1 (fun i => [(0, intsV vs), (1, intsV b), (6, .sl 0 0 (b.length + 1)), (21, SV.i (b.length + 1)), (22, SV.i i)]) (fun i => [some (.rows 3 1 (b.length + 1) (refF b vs i 0))]) (fun i => i ≤ b.length + 1) (fun i => b.length + 1 - i) (0) [88] (fun _ => rfl) (Nat.zero_le _) rfl ⟨rfl, rfl, rfl, rfl, rfl, trivial⟩ ⟨rfl, trivial⟩ (fun i hx => ?_)
      refine r1 ?_
      refine s1 23 1 1 rfl rfl rfl rfl rfl rfl (by first | trivial | omega | (simp only [List.length_map, List.length_append, List.length_cons, List.length_nil] at *; omega)) ?_
      refine e1 9 rfl ?_
      refine keep [0, 1, 6, 21, 22, 23] rfl ?_
      refine W_seq ?_
      refine q1 rfl (fun hc7 => ?_) (fun hc7 => ?_)
      · skip
        try simp only [decide_eq_true_eq, decide_eq_false_iff_not, Bool.not_eq_true', Bool.not_eq_false', beq_iff_eq, bne_iff_ne, beq_eq_false_iff_ne, Bool.and_eq_true, Bool.or_eq_true, Bool.and_eq_false_iff, Bool.or_eq_false_iff, ge_iff_le, gt_iff_lt, Int.not_lt, Int.not_le, ne_eq, Decidable.not_not, bne_eq_false_iff_eq] at hc7
        refine W_skip ?_
        refine tn ?_
        refine W_seq ?_
        refine W_block ?_
        refine r1 ?_
        refine s1 24 9 1 rfl rfl rfl rfl rfl rfl trivial ?_
        refine s1 7 17 2 rfl rfl rfl rfl rfl rfl trivial ?_
        refine e1 25 rfl ?_
        refine keep [0, 1, 6, 7, 21, 22] rfl ?_
        refine r1 ?_
        refine s1 25 25 1 rfl rfl rfl rfl rfl rfl trivial ?_
        refine s1 26 33 2 rfl rfl rfl rfl rfl rfl (by first | trivial | omega | (simp only [List.length_map, List.length_append, List.length_cons, List.length_nil] at *; omega)) ?_
        refine s1 27 41 3 rfl rfl rfl rfl rfl rfl trivial ?_
        refine e1 49 rfl ?_
        refine keep [0, 1, 6, 7, 21, 22, 25, 26, 27] rfl ?_
        refine W_block ?_
        refine loop (α := Nat) 1 (fun n => [(0, intsV vs), (1, intsV b), (6, .sl 0 0 (b.length + 1)), (7, SV.i i), (21, SV.i (b.length + 1)), (22, SV.i i), (25, intsV vs), (26, SV.i vs.length), (27, SV.i n)]) (fun n => [some (.rows 3 1 (b.length + 1) (refF b vs i n))]) (fun n => n ≤ vs.length) (fun n => vs.length - n) (0) [0] (fun _ => rfl) (Nat.zero_le _) rfl ⟨rfl, rfl, rfl, rfl, rfl, rfl, rfl, rfl, rfl, trivial⟩ ⟨rfl, trivial⟩ (fun n hx => ?_)
        have hin := hx
        refine r1 ?_
        refine s1 28 1 1 rfl rfl rfl rfl rfl rfl (by first | trivial | omega | (simp only [List.length_map, List.length_append, List.length_cons, List.length_nil] at *; omega)) ?_
        refine e1 9 rfl ?_
        refine keep [0, 1, 6, 7, 21, 22, 25, 26, 27, 28] rfl ?_
        refine W_seq ?_
        refine q1 rfl (fun hc10 => ?_) (fun hc10 => ?_)
        · skip
          try simp only [decide_eq_true_eq, decide_eq_false_iff_not, Bool.not_eq_true', Bool.not_eq_false', beq_iff_eq, bne_iff_ne, beq_eq_false_iff_ne, Bool.and_eq_true, Bool.or_eq_true, Bool.and_eq_false_iff, Bool.or_eq_false_iff, ge_iff_le, gt_iff_lt, Int.not_lt, Int.not_le, ne_eq, Decidable.not_not, bne_eq_false_iff_eq] at hc10
          refine W_skip ?_
          refine tn ?_
          refine W_seq ?_
          refine W_block ?_
          refine r1 ?_
          refine s1 29 9 1 rfl rfl rfl rfl rfl rfl (by first | trivial | omega | (simp only [List.length_map, List.length_append, List.length_cons, List.length_nil] at *; omega)) ?_
          refine s1 30 17 2 rfl rfl rfl rfl rfl rfl (by first | trivial | omega | (simp only [List.length_map, List.length_append, List.length_cons, List.length_nil] at *; omega)) ?_
          refine s1 9 25 3 rfl rfl rfl rfl rfl rfl trivial ?_
          refine e1 33 rfl ?_
          refine keep [0, 1, 6, 7, 9, 21, 22, 25, 26, 27] rfl ?_
          refine r1 ?_
          refine s1 31 33 1 rfl rfl rfl rfl rfl rfl trivial ?_
          refine s1 32 41 2 rfl rfl rfl rfl rfl rfl (by first | trivial | omega | (simp only [List.length_map, List.length_append, List.length_cons, List.length_nil] at *; omega)) ?_
          refine s1 33 49 3 rfl rfl rfl rfl rfl rfl trivial ?_
          refine ask 33 rfl (fun hg12_33 => ?_) (fun hg12_33 => ?_)
          · skip
            try simp only [decide_eq_true_eq, decide_eq_false_iff_not, Bool.not_eq_true', Bool.not_eq_false', beq_iff_eq, bne_iff_ne, beq_eq_false_iff_ne, Bool.and_eq_true, Bool.or_eq_true, Bool.and_eq_false_iff, Bool.or_eq_false_iff, ge_iff_le, gt_iff_lt, Int.not_lt, Int.not_le, ne_eq, Decidable.not_not, bne_eq_false_iff_eq] at hg12_33
            refine g0 2 false 33 34 4 rfl rfl rfl rfl rfl rfl ?_
            refine g0 2 false 33 35 5 rfl rfl rfl rfl rfl rfl ?_
            refine g0 2 false 33 36 6 rfl rfl rfl rfl rfl rfl ?_
            refine g0 2 false 33 37 7 rfl rfl rfl rfl rfl rfl ?_
            refine g0 2 false 33 38 8 rfl rfl rfl rfl rfl rfl ?_
            refine g0 2 false 33 39 9 rfl rfl rfl rfl rfl rfl ?_
            refine g0 2 false 33 40 10 rfl rfl rfl rfl rfl rfl ?_
            refine s1 41 113 11 rfl rfl rfl rfl rfl rfl trivial ?_
            refine s1 42 121 12 rfl rfl rfl rfl rfl rfl trivial ?_
            refine joinB 13 25 55 (decide (posOf b (vs.getD n 0) = i)) [0, 1, 6, 7, 9, 21, 22, 25, 26, 27, 42] [0, 1, 6, 7, 21, 22, 25, 26, 27] rfl rfl rfl rfl ?_ (fun hj12_24 => ?_)
            · skip
              refine e1 233 rfl ?_
              refine keep [0, 1, 6, 7, 21, 22, 25, 26, 27, 55] rfl ?_
              refine q1 rfl (fun hc12 => ?_) (fun hc12 => ?_)
              · skip
                try simp only [decide_eq_true_eq, decide_eq_false_iff_not, Bool.not_eq_true', Bool.not_eq_false', beq_iff_eq, bne_iff_ne, beq_eq_false_iff_ne, Bool.and_eq_true, Bool.or_eq_true, Bool.and_eq_false_iff, Bool.or_eq_false_iff, ge_iff_le, gt_iff_lt, Int.not_lt, Int.not_le, ne_eq, Decidable.not_not, bne_eq_false_iff_eq] at hc12
                refine r0 ?_
                refine s1 56 233 1 rfl rfl rfl rfl rfl rfl trivial ?_
                refine s1 57 241 2 rfl rfl rfl rfl rfl rfl trivial ?_
                refine s1 58 249 3 rfl rfl rfl rfl rfl rfl (by first | trivial | omega | (simp only [List.length_map, List.length_append, List.length_cons, List.length_nil] at *; omega)) ?_
                refine s1 59 257 4 rfl rfl rfl rfl rfl rfl (by first | trivial | omega | (simp only [List.length_map, List.length_append, List.length_cons, List.length_nil] at *; omega)) ?_
                refine sA 60 265 5 rfl rfl rfl rfl rfl rfl rfl rfl rfl (by have h1 := cnt_in b vs i n; simp only [Int.toNat_natCast, Nat.zero_add, Nat.lt_irrefl, if_false, if_true]; unfold inRange; omega) ?_
                refine s1 61 273 6 rfl rfl rfl rfl rfl rfl (by first | trivial | omega | (simp only [List.length_map, List.length_append, List.length_cons, List.length_nil] at *; omega)) ?_
                refine s0 281 7 rfl rfl rfl rfl rfl (by first | trivial | omega | (simp only [List.length_map, List.length_append, List.length_cons, List.length_nil] at *; omega)) ?_
                refine e1 289 rfl ?_
                refine bn ?_
                refine tn ?_
                refine rowsc 0 (b.length + 1) (refF b vs i (n + 1)) rfl rfl (fun k c hk hc => by simp only [Int.toNat_natCast, Nat.zero_add, Nat.lt_irrefl, if_false, if_true]; exact refF_put b vs i n hc12 rfl k c hc) ?_
                refine r0 ?_
                refine sA 62 289 1 rfl rfl rfl rfl rfl rfl rfl rfl rfl (by unfold inRange; omega) ?_
                refine s1 27 297 2 rfl rfl rfl rfl rfl rfl trivial ?_
                refine e1 305 rfl ?_
                refine tn ?_
                exact again (n + 1) [0] (by omega) (by omega) rfl ⟨rfl, rfl, rfl, rfl, rfl, rfl, rfl, rfl, rfl, trivial⟩ ⟨rfl, trivial⟩
              · skip
                try simp only [decide_eq_true_eq, decide_eq_false_iff_not, Bool.not_eq_true', Bool.not_eq_false', beq_iff_eq, bne_iff_ne, beq_eq_false_iff_ne, Bool.and_eq_true, Bool.or_eq_true, Bool.and_eq_false_iff, Bool.or_eq_false_iff, ge_iff_le, gt_iff_lt, Int.not_lt, Int.not_le, ne_eq, Decidable.not_not, bne_eq_false_iff_eq] at hc12
                refine W_skip ?_
                refine bn ?_
                refine tn ?_
                refine rowsc 0 (b.length + 1) (refF b vs i (n + 1)) rfl rfl (fun k c hk hc => refF_let b vs i n hc12 k c) ?_
                refine r0 ?_
                refine sA 62 233 1 rfl rfl rfl rfl rfl rfl rfl rfl rfl (by unfold inRange; omega) ?_
                refine s1 27 241 2 rfl rfl rfl rfl rfl rfl trivial ?_
                refine e1 249 rfl ?_
                refine tn ?_
                exact again (n + 1) [0] (by omega) (by omega) rfl ⟨rfl, rfl, rfl, rfl, rfl, rfl, rfl, rfl, rfl, trivial⟩ ⟨rfl, trivial⟩
            · skip
              refine g1 11 true 42 43 13 rfl rfl rfl rfl rfl ?_
              refine s1 43 129 13 rfl rfl rfl rfl rfl rfl trivial ?_
              refine g1 11 true 42 44 14 rfl rfl rfl rfl rfl ?_
              refine s1 44 137 14 rfl rfl rfl rfl rfl rfl trivial ?_
              refine g1 11 true 42 45 15 rfl rfl rfl rfl rfl ?_
              refine s1 45 145 15 rfl rfl rfl rfl rfl rfl (by first | trivial | omega | (simp only [List.length_map, List.length_append, List.length_cons, List.length_nil] at *; omega)) ?_
              refine g1 11 true 42 46 16 rfl rfl rfl rfl rfl ?_
              refine s1 46 153 16 rfl rfl rfl rfl rfl rfl (by first | trivial | omega | (simp only [List.length_map, List.length_append, List.length_cons, List.length_nil] at *; omega)) ?_
              refine g1 11 true 42 47 17 rfl rfl rfl rfl rfl ?_
              refine s1 47 161 17 rfl rfl rfl rfl rfl rfl trivial ?_
              refine ask 47 rfl (fun hg12_47 => ?_) (fun hg12_47 => ?_)
              · skip
                try simp only [decide_eq_true_eq, decide_eq_false_iff_not, Bool.not_eq_true', Bool.not_eq_false', beq_iff_eq, bne_iff_ne, beq_eq_false_iff_ne, Bool.and_eq_true, Bool.or_eq_true, Bool.and_eq_false_iff, Bool.or_eq_false_iff, ge_iff_le, gt_iff_lt, Int.not_lt, Int.not_le, ne_eq, Decidable.not_not, bne_eq_false_iff_eq] at hg12_47
                refine g0 16 false 47 48 18 rfl rfl rfl rfl rfl rfl ?_
                refine g0 16 false 47 49 19 rfl rfl rfl rfl rfl rfl ?_
                refine g0 16 false 47 50 20 rfl rfl rfl rfl rfl rfl ?_
                refine g0 16 false 47 51 21 rfl rfl rfl rfl rfl rfl ?_
                refine g0 16 false 47 52 22 rfl rfl rfl rfl rfl rfl ?_
                refine g0 16 false 47 53 23 rfl rfl rfl rfl rfl rfl ?_
                refine g1 11 true 42 54 24 rfl rfl rfl rfl rfl ?_
                refine s1 54 217 24 rfl rfl rfl rfl rfl rfl trivial ?_
                refine s1 55 225 25 rfl rfl rfl rfl rfl rfl trivial ?_
                exact joinEnd hj12_24 rfl (by clear hj12_24; have e1 : ((i : Int) - 1).toNat = i - 1 := (by omega); (try simp only [e1, Int.toNat_natCast] at *); refine Bool.eq_iff_iff.2 ?_; simp only [decide_eq_true_eq, pos_iff hB (show i ≤ b.length by omega)]; constructor <;> intro hh <;> first | rfl | trivial | omega | (exfalso; omega) | (simp at hh; done) | (simp at hh; omega)) ⟨rfl, rfl, rfl, rfl, rfl, rfl, rfl, rfl, rfl, trivial⟩
              · skip
                try simp only [decide_eq_true_eq, decide_eq_false_iff_not, Bool.not_eq_true', Bool.not_eq_false', beq_iff_eq, bne_iff_ne, beq_eq_false_iff_ne, Bool.and_eq_true, Bool.or_eq_true, Bool.and_eq_false_iff, Bool.or_eq_false_iff, ge_iff_le, gt_iff_lt, Int.not_lt, Int.not_le, ne_eq, Decidable.not_not, bne_eq_false_iff_eq] at hg12_47
                refine g1 16 false 47 48 18 rfl rfl rfl rfl rfl ?_
                refine s1 48 169 18 rfl rfl rfl rfl rfl rfl trivial ?_
                refine g1 16 false 47 49 19 rfl rfl rfl rfl rfl ?_
                refine s1 49 177 19 rfl rfl rfl rfl rfl rfl trivial ?_
                refine g1 16 false 47 50 20 rfl rfl rfl rfl rfl ?_
                refine s1 50 185 20 rfl rfl rfl rfl rfl rfl trivial ?_
                refine g1 16 false 47 51 21 rfl rfl rfl rfl rfl ?_
                refine s1 51 193 21 rfl rfl rfl rfl rfl rfl (by first | trivial | omega | (simp only [List.length_map, List.length_append, List.length_cons, List.length_nil] at *; omega)) ?_
                refine g1 16 false 47 52 22 rfl rfl rfl rfl rfl ?_
                refine s1 52 201 22 rfl rfl rfl rfl rfl rfl (by first | trivial | omega | (simp only [List.length_map, List.length_append, List.length_cons, List.length_nil] at *; omega)) ?_
                refine g1 16 false 47 53 23 rfl rfl rfl rfl rfl ?_
                refine s1 53 209 23 rfl rfl rfl rfl rfl rfl (by first | trivial | omega | (simp only [List.length_map, List.length_append, List.length_cons, List.length_nil] at *; omega)) ?_
                refine g1 11 true 42 54 24 rfl rfl rfl rfl rfl ?_
                refine s1 54 217 24 rfl rfl rfl rfl rfl rfl trivial ?_
                refine s1 55 225 25 rfl rfl rfl rfl rfl rfl trivial ?_
                exact joinEnd hj12_24 rfl (by clear hj12_24; have e1 : ((i : Int) - 1).toNat = i - 1 := (by omega); (try simp only [e1, Int.toNat_natCast] at *); refine Bool.eq_iff_iff.2 ?_; simp only [decide_eq_true_eq, pos_iff hB (show i ≤ b.length by omega)]; constructor <;> intro hh <;> first | rfl | trivial | omega | (exfalso; omega) | (simp at hh; done) | (simp at hh; omega)) ⟨rfl, rfl, rfl, rfl, rfl, rfl, rfl, rfl, rfl, trivial⟩
          · skip
            try simp only [decide_eq_true_eq, decide_eq_false_iff_not, Bool.not_eq_true', Bool.not_eq_false', beq_iff_eq, bne_iff_ne, beq_eq_false_iff_ne, Bool.and_eq_true, Bool.or_eq_true, Bool.and_eq_false_iff, Bool.or_eq_false_iff, ge_iff_le, gt_iff_lt, Int.not_lt, Int.not_le, ne_eq, Decidable.not_not, bne_eq_false_iff_eq] at hg12_33
            refine g1 2 false 33 34 4 rfl rfl rfl rfl rfl ?_
            refine s1 34 57 4 rfl rfl rfl rfl rfl rfl trivial ?_
            refine g1 2 false 33 35 5 rfl rfl rfl rfl rfl ?_
            refine s1 35 65 5 rfl rfl rfl rfl rfl rfl trivial ?_
            refine g1 2 false 33 36 6 rfl rfl rfl rfl rfl ?_
            refine s1 36 73 6 rfl rfl rfl rfl rfl rfl trivial ?_
            refine g1 2 false 33 37 7 rfl rfl rfl rfl rfl ?_
            refine sA 37 81 7 rfl rfl rfl rfl rfl rfl rfl rfl rfl (by unfold inRange; omega) ?_
            refine g1 2 false 33 38 8 rfl rfl rfl rfl rfl ?_
            refine s1 38 89 8 rfl rfl rfl rfl rfl rfl (by first | trivial | omega | (simp only [List.length_map, List.length_append, List.length_cons, List.length_nil] at *; omega)) ?_
            refine g1 2 false 33 39 9 rfl rfl rfl rfl rfl ?_
            refine s1 39 97 9 rfl rfl rfl rfl rfl rfl (by first | trivial | omega | (simp only [List.length_map, List.length_append, List.length_cons, List.length_nil] at *; omega)) ?_
            refine g1 2 false 33 40 10 rfl rfl rfl rfl rfl ?_
            refine s1 40 105 10 rfl rfl rfl rfl rfl rfl (by first | trivial | omega | (simp only [List.length_map, List.length_append, List.length_cons, List.length_nil] at *; omega)) ?_
            refine s1 41 113 11 rfl rfl rfl rfl rfl rfl trivial ?_
            refine s1 42 121 12 rfl rfl rfl rfl rfl rfl trivial ?_
            refine joinB 13 25 55 (decide (posOf b (vs.getD n 0) = i)) [0, 1, 6, 7, 9, 21, 22, 25, 26, 27, 42] [0, 1, 6, 7, 21, 22, 25, 26, 27] rfl rfl rfl rfl ?_ (fun hj12_24 => ?_)
            · skip
              refine e1 233 rfl ?_
              refine keep [0, 1, 6, 7, 21, 22, 25, 26, 27, 55] rfl ?_
              refine q1 rfl (fun hc12 => ?_) (fun hc12 => ?_)
              · skip
                try simp only [decide_eq_true_eq, decide_eq_false_iff_not, Bool.not_eq_true', Bool.not_eq_false', beq_iff_eq, bne_iff_ne, beq_eq_false_iff_ne, Bool.and_eq_true, Bool.or_eq_true, Bool.and_eq_false_iff, Bool.or_eq_false_iff, ge_iff_le, gt_iff_lt, Int.not_lt, Int.not_le, ne_eq, Decidable.not_not, bne_eq_false_iff_eq] at hc12
                refine r0 ?_
                refine s1 56 233 1 rfl rfl rfl rfl rfl rfl trivial ?_
                refine s1 57 241 2 rfl rfl rfl rfl rfl rfl trivial ?_
                refine s1 58 249 3 rfl rfl rfl rfl rfl rfl (by first | trivial | omega | (simp only [List.length_map, List.length_append, List.length_cons, List.length_nil] at *; omega)) ?_
                refine s1 59 257 4 rfl rfl rfl rfl rfl rfl (by first | trivial | omega | (simp only [List.length_map, List.length_append, List.length_cons, List.length_nil] at *; omega)) ?_
                refine sA 60 265 5 rfl rfl rfl rfl rfl rfl rfl rfl rfl (by have h1 := cnt_in b vs i n; simp only [Int.toNat_natCast, Nat.zero_add, Nat.lt_irrefl, if_false, if_true]; unfold inRange; omega) ?_
                refine s1 61 273 6 rfl rfl rfl rfl rfl rfl (by first | trivial | omega | (simp only [List.length_map, List.length_append, List.length_cons, List.length_nil] at *; omega)) ?_
                refine s0 281 7 rfl rfl rfl rfl rfl (by first | trivial | omega | (simp only [List.length_map, List.length_append, List.length_cons, List.length_nil] at *; omega)) ?_
                refine e1 289 rfl ?_
                refine bn ?_
                refine tn ?_
                refine rowsc 0 (b.length + 1) (refF b vs i (n + 1)) rfl rfl (fun k c hk hc => by simp only [Int.toNat_natCast, Nat.zero_add, Nat.lt_irrefl, if_false, if_true]; exact refF_put b vs i n hc12 rfl k c hc) ?_
                refine r0 ?_
                refine sA 62 289 1 rfl rfl rfl rfl rfl rfl rfl rfl rfl (by unfold inRange; omega) ?_
                refine s1 27 297 2 rfl rfl rfl rfl rfl rfl trivial ?_
                refine e1 305 rfl ?_
                refine tn ?_
                exact again (n + 1) [0] (by omega) (by omega) rfl ⟨rfl, rfl, rfl, rfl, rfl, rfl, rfl, rfl, rfl, trivial⟩ ⟨rfl, trivial⟩
              · skip
                try simp only [decide_eq_true_eq, decide_eq_false_iff_not, Bool.not_eq_true', Bool.not_eq_false', beq_iff_eq, bne_iff_ne, beq_eq_false_iff_ne, Bool.and_eq_true, Bool.or_eq_true, Bool.and_eq_false_iff, Bool.or_eq_false_iff, ge_iff_le, gt_iff_lt, Int.not_lt, Int.not_le, ne_eq, Decidable.not_not, bne_eq_false_iff_eq] at hc12
                refine W_skip ?_
                refine bn ?_
                refine tn ?_
                refine rowsc 0 (b.length + 1) (refF b vs i (n + 1)) rfl rfl (fun k c hk hc => refF_let b vs i n hc12 k c) ?_
                refine r0 ?_
                refine sA 62 233 1 rfl rfl rfl rfl rfl rfl rfl rfl rfl (by unfold inRange; omega) ?_
                refine s1 27 241 2 rfl rfl rfl rfl rfl rfl trivial ?_
                refine e1 249 rfl ?_
                refine tn ?_
                exact again (n + 1) [0] (by omega) (by omega) rfl ⟨rfl, rfl, rfl, rfl, rfl, rfl, rfl, rfl, rfl, trivial⟩ ⟨rfl, trivial⟩
            · skip
              refine ask 42 rfl (fun hg12_42 => ?_) (fun hg12_42 => ?_)
              · skip
                try simp only [decide_eq_true_eq, decide_eq_false_iff_not, Bool.not_eq_true', Bool.not_eq_false', beq_iff_eq, bne_iff_ne, beq_eq_false_iff_ne, Bool.and_eq_true, Bool.or_eq_true, Bool.and_eq_false_iff, Bool.or_eq_false_iff, ge_iff_le, gt_iff_lt, Int.not_lt, Int.not_le, ne_eq, Decidable.not_not, bne_eq_false_iff_eq] at hg12_42
                refine g1 11 true 42 43 13 rfl rfl rfl rfl rfl ?_
                refine s1 43 129 13 rfl rfl rfl rfl rfl rfl trivial ?_
                refine g1 11 true 42 44 14 rfl rfl rfl rfl rfl ?_
                refine s1 44 137 14 rfl rfl rfl rfl rfl rfl trivial ?_
                refine g1 11 true 42 45 15 rfl rfl rfl rfl rfl ?_
                refine s1 45 145 15 rfl rfl rfl rfl rfl rfl (by first | trivial | omega | (simp only [List.length_map, List.length_append, List.length_cons, List.length_nil] at *; omega)) ?_
                refine g1 11 true 42 46 16 rfl rfl rfl rfl rfl ?_
                refine s1 46 153 16 rfl rfl rfl rfl rfl rfl (by first | trivial | omega | (simp only [List.length_map, List.length_append, List.length_cons, List.length_nil] at *; omega)) ?_
                refine g1 11 true 42 47 17 rfl rfl rfl rfl rfl ?_
                refine s1 47 161 17 rfl rfl rfl rfl rfl rfl trivial ?_
                refine ask 47 rfl (fun hg12_47 => ?_) (fun hg12_47 => ?_)
                · skip
                  try simp only [decide_eq_true_eq, decide_eq_false_iff_not, Bool.not_eq_true', Bool.not_eq_false', beq_iff_eq, bne_iff_ne, beq_eq_false_iff_ne, Bool.and_eq_true, Bool.or_eq_true, Bool.and_eq_false_iff, Bool.or_eq_false_iff, ge_iff_le, gt_iff_lt, Int.not_lt, Int.not_le, ne_eq, Decidable.not_not, bne_eq_false_iff_eq] at hg12_47
                  refine g0 16 false 47 48 18 rfl rfl rfl rfl rfl rfl ?_
                  refine g0 16 false 47 49 19 rfl rfl rfl rfl rfl rfl ?_
                  refine g0 16 false 47 50 20 rfl rfl rfl rfl rfl rfl ?_
                  refine g0 16 false 47 51 21 rfl rfl rfl rfl rfl rfl ?_
                  refine g0 16 false 47 52 22 rfl rfl rfl rfl rfl rfl ?_
                  refine g0 16 false 47 53 23 rfl rfl rfl rfl rfl rfl ?_
                  refine g1 11 true 42 54 24 rfl rfl rfl rfl rfl ?_
                  refine s1 54 217 24 rfl rfl rfl rfl rfl rfl trivial ?_
                  refine s1 55 225 25 rfl rfl rfl rfl rfl rfl trivial ?_
                  exact joinEnd hj12_24 rfl (by clear hj12_24; have e1 : ((i : Int) - 1).toNat = i - 1 := (by omega); (try simp only [e1, Int.toNat_natCast] at *); refine Bool.eq_iff_iff.2 ?_; simp only [decide_eq_true_eq, pos_iff hB (show i ≤ b.length by omega)]; constructor <;> intro hh <;> first | rfl | trivial | omega | (exfalso; omega) | (simp at hh; done) | (simp at hh; omega)) ⟨rfl, rfl, rfl, rfl, rfl, rfl, rfl, rfl, rfl, trivial⟩
                · skip
                  try simp only [decide_eq_true_eq, decide_eq_false_iff_not, Bool.not_eq_true', Bool.not_eq_false', beq_iff_eq, bne_iff_ne, beq_eq_false_iff_ne, Bool.and_eq_true, Bool.or_eq_true, Bool.and_eq_false_iff, Bool.or_eq_false_iff, ge_iff_le, gt_iff_lt, Int.not_lt, Int.not_le, ne_eq, Decidable.not_not, bne_eq_false_iff_eq] at hg12_47
                  refine g1 16 false 47 48 18 rfl rfl rfl rfl rfl ?_
                  refine s1 48 169 18 rfl rfl rfl rfl rfl rfl trivial ?_
                  refine g1 16 false 47 49 19 rfl rfl rfl rfl rfl ?_
                  refine s1 49 177 19 rfl rfl rfl rfl rfl rfl trivial ?_
                  refine g1 16 false 47 50 20 rfl rfl rfl rfl rfl ?_
                  refine s1 50 185 20 rfl rfl rfl rfl rfl rfl trivial ?_
                  refine g1 16 false 47 51 21 rfl rfl rfl rfl rfl ?_
                  refine s1 51 193 21 rfl rfl rfl rfl rfl rfl (by first | trivial | omega | (simp only [List.length_map, List.length_append, List.length_cons, List.length_nil] at *; omega)) ?_
                  refine g1 16 false 47 52 22 rfl rfl rfl rfl rfl ?_
                  refine s1 52 201 22 rfl rfl rfl rfl rfl rfl (by first | trivial | omega | (simp only [List.length_map, List.length_append, List.length_cons, List.length_nil] at *; omega)) ?_
                  refine g1 16 false 47 53 23 rfl rfl rfl rfl rfl ?_
                  refine s1 53 209 23 rfl rfl rfl rfl rfl rfl (by first | trivial | omega | (simp only [List.length_map, List.length_append, List.length_cons, List.length_nil] at *; omega)) ?_
                  refine g1 11 true 42 54 24 rfl rfl rfl rfl rfl ?_
                  refine s1 54 217 24 rfl rfl rfl rfl rfl rfl trivial ?_
                  refine s1 55 225 25 rfl rfl rfl rfl rfl rfl trivial ?_
                  exact joinEnd hj12_24 rfl (by clear hj12_24; have e1 : ((i : Int) - 1).toNat = i - 1 := (by omega); (try simp only [e1, Int.toNat_natCast] at *); refine Bool.eq_iff_iff.2 ?_; simp only [decide_eq_true_eq, pos_iff hB (show i ≤ b.length by omega)]; constructor <;> intro hh <;> first | rfl | trivial | omega | (exfalso; omega) | (simp at hh; done) | (simp at hh; omega)) ⟨rfl, rfl, rfl, rfl, rfl, rfl, rfl, rfl, rfl, trivial⟩
              · skip
                try simp only [decide_eq_true_eq, decide_eq_false_iff_not, Bool.not_eq_true', Bool.not_eq_false', beq_iff_eq, bne_iff_ne, beq_eq_false_iff_ne, Bool.and_eq_true, Bool.or_eq_true, Bool.and_eq_false_iff, Bool.or_eq_false_iff, ge_iff_le, gt_iff_lt, Int.not_lt, Int.not_le, ne_eq, Decidable.not_not, bne_eq_false_iff_eq] at hg12_42
                refine g0 11 true 42 43 13 rfl rfl rfl rfl rfl rfl ?_
                refine g0 11 true 42 44 14 rfl rfl rfl rfl rfl rfl ?_
                refine g0 11 true 42 45 15 rfl rfl rfl rfl rfl rfl ?_
                refine g0 11 true 42 46 16 rfl rfl rfl rfl rfl rfl ?_
                refine g0 11 true 42 47 17 rfl rfl rfl rfl rfl rfl ?_
                refine gz 16 false 47 48 18 rfl rfl rfl rfl rfl rfl ?_
                refine gz 16 false 47 49 19 rfl rfl rfl rfl rfl rfl ?_
                refine gz 16 false 47 50 20 rfl rfl rfl rfl rfl rfl ?_
                refine gz 16 false 47 51 21 rfl rfl rfl rfl rfl rfl ?_
                refine gz 16 false 47 52 22 rfl rfl rfl rfl rfl rfl ?_
                refine gz 16 false 47 53 23 rfl rfl rfl rfl rfl rfl ?_
                refine g0 11 true 42 54 24 rfl rfl rfl rfl rfl rfl ?_
                refine s1 55 225 25 rfl rfl rfl rfl rfl rfl trivial ?_
                exact joinEnd hj12_24 rfl (by clear hj12_24; have e1 : ((i : Int) - 1).toNat = i - 1 := (by omega); (try simp only [e1, Int.toNat_natCast] at *); refine Bool.eq_iff_iff.2 ?_; simp only [decide_eq_true_eq, pos_iff hB (show i ≤ b.length by omega)]; constructor <;> intro hh <;> first | rfl | trivial | omega | (exfalso; omega) | (simp at hh; done) | (simp at hh; omega)) ⟨rfl, rfl, rfl, rfl, rfl, rfl, rfl, rfl, rfl, trivial⟩
        · skip
          try simp only [decide_eq_true_eq, decide_eq_false_iff_not, Bool.not_eq_true', Bool.not_eq_false', beq_iff_eq, bne_iff_ne, beq_eq_false_iff_ne, Bool.and_eq_true, Bool.or_eq_true, Bool.and_eq_false_iff, Bool.or_eq_false_iff, ge_iff_le, gt_iff_lt, Int.not_lt, Int.not_le, ne_eq, Decidable.not_not, bne_eq_false_iff_eq] at hc10
          refine W_exit ?_
          refine tx ?_
          refine tx ?_
          refine bx ?_
          refine bn ?_
          refine tn ?_
          obtain rfl : n = vs.length := (by omega)
          refine rowsc 0 (b.length + 1) (refF b vs (i + 1) 0) rfl rfl (fun k c hk hc => refF_next b vs i k c) ?_
          refine r0 ?_
          refine sA 63 9 1 rfl rfl rfl rfl rfl rfl rfl rfl rfl (by unfold inRange; omega) ?_
          refine s1 22 17 2 rfl rfl rfl rfl rfl rfl trivial ?_
          refine e1 25 rfl ?_
          refine tn ?_
          exact again (i + 1) [0] (by omega) (by omega) rfl ⟨rfl, rfl, rfl, rfl, rfl, trivial⟩ ⟨rfl, trivial⟩
      · skip
        try simp only [decide_eq_true_eq, decide_eq_false_iff_not, Bool.not_eq_true', Bool.not_eq_false', beq_iff_eq, bne_iff_ne, beq_eq_false_iff_ne, Bool.and_eq_true, Bool.or_eq_true, Bool.and_eq_false_iff, Bool.or_eq_false_iff, ge_iff_le, gt_iff_lt, Int.not_lt, Int.not_le, ne_eq, Decidable.not_not, bne_eq_false_iff_eq] at hc7
        refine W_exit ?_
        refine tx ?_
        refine tx ?_
        refine bx ?_
        refine tn ?_
        obtain rfl : i = b.length + 1 := (by omega)
        refine rowsc 0 (b.length + 1) (intsF (cntL b vs)) rfl rfl (fun k c hk hc => refF_end b vs k c hk) ?_
        refine freeze 6 0 (b.length + 1) rfl rfl (Nat.le_refl _) ?_
        refine vecc 6 (cntL b vs).length (intsF (cntL b vs)) rfl (by rw [cntL_len]) (fun i c hi hc => rfl) ?_
        refine r1 ?_
        refine s1 64 9 1 rfl rfl rfl rfl rfl rfl trivial ?_
        refine s1 4 17 2 rfl rfl rfl rfl rfl rfl trivial ?_
        refine s1 5 25 3 rfl rfl rfl rfl rfl rfl trivial ?_
        refine e1 33 rfl ?_
        refine keep [4, 5] rfl ?_
        refine W_ret ?_
        exact out2 4 5 (intsV (qcounts vs b).1) (SV.i (qcounts vs b).2) (π := []) (hout := []) Try.results17 rfl rfl (by rw [qc_ok hB (by omega)]; rfl) (by rw [qc_ok hB (by omega)]; rfl) rfl rfl trivial ⟨rfl, rfl⟩

theorem lawCounts_any (vs b : List Int) (hvs : vs.length ≤ 9223372036854775807) (hbs : b.length ≤ 9223372036854775807) : Spec Try.prog G0 6 [intsV vs, intsV b] [] (fun r _ => r = SV.b true) := by
  refine start 29 0 Try.func6 rfl rfl rfl rfl ?_
  refine r1 ?_
  refine s1 4 0 1 rfl rfl rfl rfl rfl rfl trivial ?_
  refine e1 8 rfl ?_
  refine keep [0, 1] rfl ?_
  refine r1 ?_
  refine s1 10 8 1 rfl rfl rfl rfl rfl rfl trivial ?_
  refine s1 11 16 2 rfl rfl rfl rfl rfl rfl trivial ?_
  refine c1 (counts_any vs b hvs hbs) [] [] 12 24 3 rfl rfl rfl rfl rfl rfl rfl rfl Try.func16 rfl rfl rfl rfl trivial rfl rfl ?_
  refine s1 9 32 4 rfl rfl rfl rfl rfl rfl trivial ?_
  refine s1 13 40 5 rfl rfl rfl rfl rfl rfl trivial ?_
  refine s1 14 48 6 rfl rfl rfl rfl rfl rfl trivial ?_
  refine s1 5 56 7 rfl rfl rfl rfl rfl rfl trivial ?_
  refine s1 6 64 8 rfl rfl rfl rfl rfl rfl trivial ?_
  refine e1 72 rfl ?_
  refine keep [0, 1, 5, 6] rfl ?_
  refine r1 ?_
  refine s1 16 72 1 rfl rfl rfl rfl rfl rfl trivial ?_
  refine s1 17 80 2 rfl rfl rfl rfl rfl rfl trivial ?_
  refine c1 (refCounts_any vs b hvs hbs) [] [] 18 88 3 rfl rfl rfl rfl rfl rfl rfl rfl Try.func17 rfl rfl rfl rfl trivial rfl rfl ?_
  refine s1 15 96 4 rfl rfl rfl rfl rfl rfl trivial ?_
  refine s1 19 104 5 rfl rfl rfl rfl rfl rfl trivial ?_
  refine s1 20 112 6 rfl rfl rfl rfl rfl rfl trivial ?_
  refine s1 7 120 7 rfl rfl rfl rfl rfl rfl trivial ?_
  refine s1 8 128 8 rfl rfl rfl rfl rfl rfl trivial ?_
  refine e1 136 rfl ?_
  refine keep [5, 6, 7, 8] rfl ?_
  refine r1 ?_
  refine s1 21 136 1 rfl rfl rfl rfl rfl rfl trivial ?_
  refine s1 22 144 2 rfl rfl rfl rfl rfl rfl trivial ?_
  refine c1 (same_any (qcounts vs b).1 (qcounts vs b).1 (qc_len vs b) (qc_len vs b)) [] [] 23 152 3 rfl rfl rfl rfl rfl rfl rfl rfl Try.func13 rfl rfl rfl rfl trivial rfl rfl ?_
  refine s1 24 160 4 rfl rfl rfl rfl rfl rfl trivial ?_
  refine ask 24 rfl (fun hg3_24 => ?_) (fun hg3_24 => ?_)
  · skip
    try simp only [decide_eq_true_eq, decide_eq_false_iff_not, Bool.not_eq_true', Bool.not_eq_false', beq_iff_eq, bne_iff_ne, beq_eq_false_iff_ne, Bool.and_eq_true, Bool.or_eq_true, Bool.and_eq_false_iff, Bool.or_eq_false_iff, ge_iff_le, gt_iff_lt, Int.not_lt, Int.not_le, ne_eq, Decidable.not_not, bne_eq_false_iff_eq] at hg3_24
    refine g1 3 true 24 25 5 rfl rfl rfl rfl rfl ?_
    refine s1 25 168 5 rfl rfl rfl rfl rfl rfl trivial ?_
    refine g1 3 true 24 26 6 rfl rfl rfl rfl rfl ?_
    refine s1 26 176 6 rfl rfl rfl rfl rfl rfl trivial ?_
    refine g1 3 true 24 27 7 rfl rfl rfl rfl rfl ?_
    refine s1 27 184 7 rfl rfl rfl rfl rfl rfl (by first | trivial | omega | (simp only [List.length_map, List.length_append, List.length_cons, List.length_nil] at *; omega)) ?_
    refine s1 28 192 8 rfl rfl rfl rfl rfl rfl trivial ?_
    refine s1 4 200 9 rfl rfl rfl rfl rfl rfl trivial ?_
    refine e1 208 rfl ?_
    refine keep [4] rfl ?_
    refine W_ret ?_
    exact out1 4 (SV.b true) (π := []) (hout := []) Try.results6 rfl (by first | (simp; done) | (simp; rfl) | (simp [sameB] at *; done)) rfl rfl trivial rfl
  · skip
    try simp only [decide_eq_true_eq, decide_eq_false_iff_not, Bool.not_eq_true', Bool.not_eq_false', beq_iff_eq, bne_iff_ne, beq_eq_false_iff_ne, Bool.and_eq_true, Bool.or_eq_true, Bool.and_eq_false_iff, Bool.or_eq_false_iff, ge_iff_le, gt_iff_lt, Int.not_lt, Int.not_le, ne_eq, Decidable.not_not, bne_eq_false_iff_eq] at hg3_24
    refine g0 3 true 24 25 5 rfl rfl rfl rfl rfl rfl ?_
    refine g0 3 true 24 26 6 rfl rfl rfl rfl rfl rfl ?_
    refine g0 3 true 24 27 7 rfl rfl rfl rfl rfl rfl ?_
    refine s1 28 192 8 rfl rfl rfl rfl rfl rfl trivial ?_
    refine s1 4 200 9 rfl rfl rfl rfl rfl rfl trivial ?_
    refine e1 208 rfl ?_
    refine keep [4] rfl ?_
    refine W_ret ?_
    exact out1 4 (SV.b true) (π := []) (hout := []) Try.results6 rfl (by first | (simp; done) | (simp; rfl) | (simp [sameB] at *; done)) rfl rfl trivial rfl

end Go.Proofs.Ytlhncpbcbpdcfaa.Nice
