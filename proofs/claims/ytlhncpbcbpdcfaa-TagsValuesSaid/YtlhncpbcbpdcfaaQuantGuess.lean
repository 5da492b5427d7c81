/- Ranks and histograms: the program's functions and the document's. -/
import Derived.Test.YtlhncpbcbpdcfaaProg
import Derived.Test.YtlhncpbcbpdcfaaNiceM
namespace Go.Proofs.Ytlhncpbcbpdcfaa.Nice
open Go
set_option linter.unusedVariables false
set_option linter.unusedSimpArgs false
set_option maxRecDepth 100000
def G0 : Nat → SV := fun _ => .any
def intsF (l : List Int) : Nat → Nat → D := fun i _ => .val (.int .i64 (l.getD i 0))
def intsV (l : List Int) : SV := .d (.vec 1 l.length (intsF l))
def badN (n : Int) : Bool := decide (n < 0) || decide (n > 1048576)
def idx (l : List Int) (p : Int → Bool) : Int := match l.findIdx? p with | some i => i | none => -1
def cntB (l : List Int) : Bool := decide (1 ≤ l.length) && (decide (l.length ≤ 21) && !l.any badN)
def ascB (l : List Int) : Bool := (List.range l.length).all fun i => decide (i = 0) || decide (l.getD (i - 1) 0 < l.getD i 0)
def bndB (l : List Int) : Bool := ascB l && decide (l.length ≤ 20)
def shareB (part total : Int) : Bool := decide (1 ≤ total) && (decide (total ≤ 1048576) && (decide (0 ≤ part) && decide (part ≤ total)))
def sumTo (l : List Int) : Nat → Int
  | 0 => 0
  | n + 1 => sumTo l n + l.getD n 0
def guessAt (b c : List Int) (part total : Int) (i : Nat) : Bool := decide (sumTo c (i + 1) * total ≥ part * sumTo c c.length)
def guess (b c : List Int) (part total : Int) : Int × Int :=
  if bndB b = true ∧ cntB c = true ∧ c.length = b.length + 1 then
    if shareB part total = true then
      if sumTo c c.length = 0 then (0, 6)
      else match (List.range b.length).find? (guessAt b c part total) with
        | some i => (b.getD i 0, 0)
        | none => (0, 11)
    else (0, 2)
  else (0, 4)
theorem getD_lt {l : List Int} {k : Nat} (h : k < l.length) : l.getD k 0 = l[k] := by simp [List.getD, List.getElem?_eq_getElem h]
theorem idx_found {l : List Int} {p : Int → Bool} {k : Nat} (h : k < l.length) (hp : p (l.getD k 0) = true) (hn : ∀ j, j < k → p (l.getD j 0) = false) : idx l p = k := by
  unfold idx
  have : l.findIdx? p = some k := by
    rw [List.findIdx?_eq_some_iff_getElem]
    refine ⟨h, by rw [← getD_lt h]; exact hp, fun j hj => by have := hn j hj; rw [getD_lt (by omega)] at this; simp [this]⟩
  rw [this]
theorem idx_none {l : List Int} {p : Int → Bool} (hn : ∀ j, j < l.length → p (l.getD j 0) = false) : idx l p = -1 := by
  unfold idx
  have : l.findIdx? p = none := by
    rw [List.findIdx?_eq_none_iff]
    intro x hx
    obtain ⟨j, hj, rfl⟩ := List.mem_iff_getElem.1 hx
    rw [← getD_lt hj]; exact hn j hj
  rw [this]
theorem idx_any {l : List Int} {p : Int → Bool} : decide (idx l p ≥ 0) = l.any p := by
  unfold idx
  cases h : l.findIdx? p with
  | none =>
    rw [List.findIdx?_eq_none_iff] at h
    have : l.any p = false := by rw [List.any_eq_false]; intro x hx; simp [h x hx]
    rw [this]; rfl
  | some i =>
    rw [List.findIdx?_eq_some_iff_getElem] at h
    obtain ⟨hi, hp, _⟩ := h
    have : l.any p = true := by rw [List.any_eq_true]; exact ⟨_, List.getElem_mem hi, hp⟩
    rw [this]; simp
theorem any_at {l : List Int} {p : Int → Bool} {n : Nat} (h : n < l.length) (hp : p (l.getD n 0) = true) : l.any p = true := by
  rw [getD_lt h] at hp
  rw [List.any_eq_true]; exact ⟨_, List.getElem_mem h, hp⟩
theorem any_none {l : List Int} {p : Int → Bool} (hn : ∀ j, j < l.length → p (l.getD j 0) = false) : l.any p = false := by
  rw [List.any_eq_false]
  intro x hx
  obtain ⟨j, hj, rfl⟩ := List.mem_iff_getElem.1 hx
  have := hn j hj; rw [getD_lt hj] at this; simp [this]
theorem asc_not {l : List Int} {n : Nat} (h0 : 0 < n) (hn : n < l.length) (h : l.getD n 0 ≤ l.getD (n - 1) 0) : ascB l = false := by
  unfold ascB
  rw [List.all_eq_false]
  refine ⟨n, by simpa using hn, ?_⟩
  rw [Bool.or_eq_true, decide_eq_true_eq, decide_eq_true_eq]; omega
theorem asc_all {l : List Int} (h : ∀ j, j < l.length → 0 < j → l.getD (j - 1) 0 < l.getD j 0) : ascB l = true := by
  unfold ascB
  rw [List.all_eq_true]
  intro j hj
  rw [Bool.or_eq_true, decide_eq_true_eq, decide_eq_true_eq]
  have hj : j < l.length := by simpa using hj
  by_cases h0 : j = 0
  · exact .inl h0
  · exact .inr (h j hj (by omega))
theorem cnt_at {l : List Int} (h : cntB l = true) {n : Nat} (hn : n < l.length) : 0 ≤ l.getD n 0 ∧ l.getD n 0 ≤ 1048576 := by
  unfold cntB at h
  simp only [Bool.and_eq_true, Bool.not_eq_true', decide_eq_true_eq] at h
  obtain ⟨_, _, h⟩ := h
  rw [List.any_eq_false] at h
  have := h _ (List.getElem_mem hn)
  rw [getD_lt hn]
  simp [badN] at this; omega
theorem bnd_len {l : List Int} (h : bndB l = true) : l.length ≤ 20 := by
  unfold bndB at h
  simp only [Bool.and_eq_true, decide_eq_true_eq] at h; exact h.2
theorem cnt_len {l : List Int} (h : cntB l = true) : 1 ≤ l.length ∧ l.length ≤ 21 := by
  unfold cntB at h
  simp only [Bool.and_eq_true, Bool.not_eq_true', decide_eq_true_eq] at h; omega
theorem sum_le {l : List Int} (h : cntB l = true) : ∀ n, n ≤ l.length → 0 ≤ sumTo l n ∧ sumTo l n ≤ n * 1048576
  | 0, _ => by simp [sumTo]
  | n + 1, hn => by
    have := sum_le h n (by omega)
    have := cnt_at h (show n < l.length by omega)
    simp only [sumTo]; omega
theorem mul_le {a b x y : Int} (ha : 0 ≤ a) (hax : a ≤ x) (hb : 0 ≤ b) (hby : b ≤ y) : 0 ≤ a * b ∧ a * b ≤ x * y :=
  ⟨Int.mul_nonneg ha hb, Int.mul_le_mul hax hby hb (by omega)⟩
theorem sum_in {l : List Int} (h : cntB l = true) {n : Nat} (hn : n ≤ l.length) {t : Int} (ht : 0 ≤ t) (ht' : t ≤ 1048576) : inRange (sumTo l n * t) := by
  have h1 := sum_le h n hn
  have h2 := cnt_len h
  have := mul_le h1.1 (show sumTo l n ≤ 22020096 by omega) ht ht'
  unfold inRange; omega
theorem share_of {p t : Int} (h : shareB p t = true) : 1 ≤ t ∧ t ≤ 1048576 ∧ 0 ≤ p ∧ p ≤ t := by
  simpa [shareB] using h
theorem guess_form {b c : List Int} {p t : Int} (h : ¬ (bndB b = true ∧ cntB c = true ∧ c.length = b.length + 1)) : guess b c p t = (0, 4) := by
  unfold guess; rw [if_neg h]
theorem guess_range {b c : List Int} {p t : Int} (h : bndB b = true) (h1 : cntB c = true) (h2 : c.length = b.length + 1) (h3 : shareB p t = false) : guess b c p t = (0, 2) := by
  unfold guess; rw [if_pos ⟨h, h1, h2⟩, if_neg (by rw [h3]; decide)]
theorem guess_zero {b c : List Int} {p t : Int} (h : bndB b = true) (h1 : cntB c = true) (h2 : c.length = b.length + 1) (h3 : shareB p t = true) (h4 : sumTo c c.length = 0) : guess b c p t = (0, 6) := by
  unfold guess; rw [if_pos ⟨h, h1, h2⟩, if_pos h3, if_pos h4]
theorem guess_at {b c : List Int} {p t : Int} (h : bndB b = true) (h1 : cntB c = true) (h2 : c.length = b.length + 1) (h3 : shareB p t = true) (h4 : sumTo c c.length ≠ 0) {n : Nat} (hn : n < b.length) (hp : sumTo c (n + 1) * t ≥ p * sumTo c c.length) (hno : ∀ j, j < n → sumTo c (j + 1) * t < p * sumTo c c.length) : guess b c p t = (b.getD n 0, 0) := by
  unfold guess; rw [if_pos ⟨h, h1, h2⟩, if_pos h3, if_neg h4]
  have : (List.range b.length).find? (guessAt b c p t) = some n := by
    rw [List.find?_range_eq_some]
    refine ⟨by simpa [guessAt] using hp, by simpa using hn, fun j hj => ?_⟩
    have := hno j hj
    simp [guessAt]; omega
  rw [this]
theorem guess_none {b c : List Int} {p t : Int} (h : bndB b = true) (h1 : cntB c = true) (h2 : c.length = b.length + 1) (h3 : shareB p t = true) (h4 : sumTo c c.length ≠ 0) (hno : ∀ j, j < b.length → sumTo c (j + 1) * t < p * sumTo c c.length) : guess b c p t = (0, 11) := by
  unfold guess; rw [if_pos ⟨h, h1, h2⟩, if_pos h3, if_neg h4]
  have : (List.range b.length).find? (guessAt b c p t) = none := by
    rw [List.find?_range_eq_none]
    intro j hj
    have := hno j hj
    simp [guessAt]; omega
  rw [this]

theorem badN_any (n : Int) : Spec Try.prog G0 53 [SV.i n] [] (fun r ho => r = SV.b (badN n) ∧ ho = []) := by
  refine start 9 0 Try.func53 rfl rfl rfl rfl ?_
  refine r1 ?_
  refine s1 2 0 1 rfl rfl rfl rfl rfl rfl trivial ?_
  refine e1 8 rfl ?_
  refine keep [0] rfl ?_
  refine r1 ?_
  refine s1 3 8 1 rfl rfl rfl rfl rfl rfl trivial ?_
  refine s1 4 16 2 rfl rfl rfl rfl rfl rfl (by first | trivial | omega | (simp only [List.length_map, List.length_append, List.length_cons, List.length_nil] at *; omega)) ?_
  refine s1 5 24 3 rfl rfl rfl rfl rfl rfl trivial ?_
  refine ask 5 rfl (fun hg1_5 => ?_) (fun hg1_5 => ?_)
  · skip
    try simp only [decide_eq_true_eq, decide_eq_false_iff_not, Bool.not_eq_true', Bool.not_eq_false', beq_iff_eq, bne_iff_ne, beq_eq_false_iff_ne, Bool.and_eq_true, Bool.or_eq_true, Bool.and_eq_false_iff, Bool.or_eq_false_iff, ge_iff_le, gt_iff_lt, Int.not_lt, Int.not_le, ne_eq, Decidable.not_not, bne_eq_false_iff_eq] at hg1_5
    refine g0 2 false 5 6 4 rfl rfl rfl rfl rfl rfl ?_
    refine g0 2 false 5 7 5 rfl rfl rfl rfl rfl rfl ?_
    refine s1 8 48 6 rfl rfl rfl rfl rfl rfl trivial ?_
    refine s1 2 56 7 rfl rfl rfl rfl rfl rfl trivial ?_
    refine e1 64 rfl ?_
    refine keep [2] rfl ?_
    refine W_ret ?_
    exact out1 2 (SV.b (badN n)) (π := []) (hout := []) Try.results53 rfl (by show SV.b _ = SV.b _; refine congrArg SV.b (Bool.eq_iff_iff.2 ?_); first | (simp [badN, *]; done) | (simp [badN, *]; omega) | (simp [badN]; omega)) rfl rfl trivial ⟨rfl, rfl⟩
  · skip
    try simp only [decide_eq_true_eq, decide_eq_false_iff_not, Bool.not_eq_true', Bool.not_eq_false', beq_iff_eq, bne_iff_ne, beq_eq_false_iff_ne, Bool.and_eq_true, Bool.or_eq_true, Bool.and_eq_false_iff, Bool.or_eq_false_iff, ge_iff_le, gt_iff_lt, Int.not_lt, Int.not_le, ne_eq, Decidable.not_not, bne_eq_false_iff_eq] at hg1_5
    refine g1 2 false 5 6 4 rfl rfl rfl rfl rfl ?_
    refine s1 6 32 4 rfl rfl rfl rfl rfl rfl trivial ?_
    refine g1 2 false 5 7 5 rfl rfl rfl rfl rfl ?_
    refine s1 7 40 5 rfl rfl rfl rfl rfl rfl (by first | trivial | omega | (simp only [List.length_map, List.length_append, List.length_cons, List.length_nil] at *; omega)) ?_
    refine s1 8 48 6 rfl rfl rfl rfl rfl rfl trivial ?_
    refine s1 2 56 7 rfl rfl rfl rfl rfl rfl trivial ?_
    refine e1 64 rfl ?_
    refine keep [2] rfl ?_
    refine W_ret ?_
    exact out1 2 (SV.b (badN n)) (π := []) (hout := []) Try.results53 rfl (by show SV.b _ = SV.b _; refine congrArg SV.b (Bool.eq_iff_iff.2 ?_); first | (simp [badN, *]; done) | (simp [badN, *]; omega) | (simp [badN]; omega)) rfl rfl trivial ⟨rfl, rfl⟩

theorem index_any (l : List Int) (hl : l.length ≤ 9223372036854775807) : Spec Try.prog G0 63 [intsV l, .fn 53 []] [] (fun r ho => r = SV.i (idx l badN) ∧ ho = []) := by
  refine start 19 0 Try.func63 rfl rfl rfl rfl ?_
  refine r1 ?_
  refine s1 4 0 1 rfl rfl rfl rfl rfl rfl trivial ?_
  refine e1 8 rfl ?_
  refine keep [0, 1] rfl ?_
  refine W_seq ?_
  refine r1 ?_
  refine s1 6 8 1 rfl rfl rfl rfl rfl rfl trivial ?_
  refine s1 7 16 2 rfl rfl rfl rfl rfl rfl (by first | trivial | omega | (simp only [List.length_map, List.length_append, List.length_cons, List.length_nil] at *; omega)) ?_
  refine s1 8 24 3 rfl rfl rfl rfl rfl rfl trivial ?_
  refine e1 32 rfl ?_
  refine keep [0, 1, 7, 8] rfl ?_
  refine W_block ?_
  refine loop (α := Nat) 0 (fun n => [(0, intsV l), (1, .fn 53 []), (7, SV.i l.length), (8, SV.i n)]) (fun n => []) (fun n => n ≤ l.length ∧ ∀ j, j < n → badN (l.getD j 0) = false) (fun n => l.length - n) (0) [] (fun _ => rfl) ⟨Nat.zero_le _, fun j hj => by omega⟩ rfl ⟨rfl, rfl, rfl, rfl, trivial⟩ trivial (fun n hx => ?_)
  obtain ⟨hn, hno⟩ := hx
  refine r1 ?_
  refine s1 9 0 1 rfl rfl rfl rfl rfl rfl (by first | trivial | omega | (simp only [List.length_map, List.length_append, List.length_cons, List.length_nil] at *; omega)) ?_
  refine e1 8 rfl ?_
  refine keep [0, 1, 7, 8, 9] rfl ?_
  refine W_seq ?_
  refine q1 rfl (fun hc2 => ?_) (fun hc2 => ?_)
  · skip
    try simp only [decide_eq_true_eq, decide_eq_false_iff_not, Bool.not_eq_true', Bool.not_eq_false', beq_iff_eq, bne_iff_ne, beq_eq_false_iff_ne, Bool.and_eq_true, Bool.or_eq_true, Bool.and_eq_false_iff, Bool.or_eq_false_iff, ge_iff_le, gt_iff_lt, Int.not_lt, Int.not_le, ne_eq, Decidable.not_not, bne_eq_false_iff_eq] at hc2
    refine W_skip ?_
    refine tn ?_
    refine W_seq ?_
    refine W_block ?_
    refine r1 ?_
    refine s1 10 8 1 rfl rfl rfl rfl rfl rfl trivial ?_
    refine s1 5 16 2 rfl rfl rfl rfl rfl rfl trivial ?_
    refine e1 24 rfl ?_
    refine keep [0, 1, 5, 7, 8] rfl ?_
    refine r1 ?_
    refine s1 11 24 1 rfl rfl rfl rfl rfl rfl trivial ?_
    refine s1 12 32 2 rfl rfl rfl rfl rfl rfl trivial ?_
    refine s1 13 40 3 rfl rfl rfl rfl rfl rfl trivial ?_
    refine s1 14 48 4 rfl rfl rfl rfl rfl rfl (by first | trivial | omega | (simp only [List.length_map, List.length_append, List.length_cons, List.length_nil] at *; omega)) ?_
    refine s1 15 56 5 rfl rfl rfl rfl rfl rfl (by first | trivial | omega | (simp only [List.length_map, List.length_append, List.length_cons, List.length_nil] at *; omega)) ?_
    refine c1 (badN_any (l.getD n 0)) [] [] 16 64 6 rfl rfl rfl rfl rfl rfl rfl rfl Try.func53 rfl rfl rfl rfl trivial rfl rfl ?_
    refine e1 72 rfl ?_
    refine keep [0, 1, 5, 7, 8, 16] rfl ?_
    refine q1 rfl (fun hc4 => ?_) (fun hc4 => ?_)
    · skip
      try simp only [decide_eq_true_eq, decide_eq_false_iff_not, Bool.not_eq_true', Bool.not_eq_false', beq_iff_eq, bne_iff_ne, beq_eq_false_iff_ne, Bool.and_eq_true, Bool.or_eq_true, Bool.and_eq_false_iff, Bool.or_eq_false_iff, ge_iff_le, gt_iff_lt, Int.not_lt, Int.not_le, ne_eq, Decidable.not_not, bne_eq_false_iff_eq] at hc4
      refine r1 ?_
      refine s1 17 72 1 rfl rfl rfl rfl rfl rfl trivial ?_
      refine s1 4 80 2 rfl rfl rfl rfl rfl rfl trivial ?_
      refine e1 88 rfl ?_
      refine keep [4] rfl ?_
      refine W_ret ?_
      refine br ?_
      refine tr ?_
      refine tr ?_
      refine br ?_
      refine tr ?_
      exact out1 4 (SV.i (idx l badN)) (π := []) (hout := []) Try.results63 rfl (by rw [idx_found (by omega) hc4 hno]; rfl) rfl rfl trivial ⟨rfl, rfl⟩
    · skip
      try simp only [decide_eq_true_eq, decide_eq_false_iff_not, Bool.not_eq_true', Bool.not_eq_false', beq_iff_eq, bne_iff_ne, beq_eq_false_iff_ne, Bool.and_eq_true, Bool.or_eq_true, Bool.and_eq_false_iff, Bool.or_eq_false_iff, ge_iff_le, gt_iff_lt, Int.not_lt, Int.not_le, ne_eq, Decidable.not_not, bne_eq_false_iff_eq] at hc4
      refine W_skip ?_
      refine bn ?_
      refine tn ?_
      refine r0 ?_
      refine sA 18 72 1 rfl rfl rfl rfl rfl rfl rfl rfl rfl (by unfold inRange; omega) ?_
      refine s1 8 80 2 rfl rfl rfl rfl rfl rfl trivial ?_
      refine e1 88 rfl ?_
      refine tn ?_
      exact again (n + 1) [] ⟨by omega, fun j hj => by by_cases e : j = n; (subst e; exact hc4); exact hno j (by omega)⟩ (by omega) rfl ⟨rfl, rfl, rfl, rfl, trivial⟩ trivial
  · skip
    try simp only [decide_eq_true_eq, decide_eq_false_iff_not, Bool.not_eq_true', Bool.not_eq_false', beq_iff_eq, bne_iff_ne, beq_eq_false_iff_ne, Bool.and_eq_true, Bool.or_eq_true, Bool.and_eq_false_iff, Bool.or_eq_false_iff, ge_iff_le, gt_iff_lt, Int.not_lt, Int.not_le, ne_eq, Decidable.not_not, bne_eq_false_iff_eq] at hc2
    refine W_exit ?_
    refine tx ?_
    refine tx ?_
    refine bx ?_
    refine tn ?_
    refine r1 ?_
    refine s1 4 8 1 rfl rfl rfl rfl rfl rfl trivial ?_
    refine e1 16 rfl ?_
    refine keep [4] rfl ?_
    refine W_ret ?_
    exact out1 4 (SV.i (idx l badN)) (π := []) (hout := []) Try.results63 rfl (by rw [idx_none (fun j hj => hno j (by omega))]; rfl) rfl rfl trivial ⟨rfl, rfl⟩

theorem contains_any (l : List Int) (hl : l.length ≤ 9223372036854775807) : Spec Try.prog G0 52 [intsV l, .fn 53 []] [] (fun r ho => r = SV.b (l.any badN) ∧ ho = []) := by
  refine start 9 0 Try.func52 rfl rfl rfl rfl ?_
  refine r1 ?_
  refine s1 4 0 1 rfl rfl rfl rfl rfl rfl trivial ?_
  refine e1 8 rfl ?_
  refine keep [0, 1] rfl ?_
  refine r1 ?_
  refine s1 5 8 1 rfl rfl rfl rfl rfl rfl trivial ?_
  refine s1 6 16 2 rfl rfl rfl rfl rfl rfl trivial ?_
  refine c1 (index_any l hl) [] [] 7 24 3 rfl rfl rfl rfl rfl rfl rfl rfl Try.func63 rfl rfl rfl rfl trivial rfl rfl ?_
  refine s1 8 32 4 rfl rfl rfl rfl rfl rfl (by first | trivial | omega | (simp only [List.length_map, List.length_append, List.length_cons, List.length_nil] at *; omega)) ?_
  refine s1 4 40 5 rfl rfl rfl rfl rfl rfl trivial ?_
  refine e1 48 rfl ?_
  refine keep [4] rfl ?_
  refine W_ret ?_
  exact out1 4 (SV.b (l.any badN)) (π := []) (hout := []) Try.results52 rfl (congrArg SV.b idx_any) rfl rfl trivial ⟨rfl, rfl⟩

theorem counted_any (l : List Int) (hl : l.length ≤ 9223372036854775807) : Spec Try.prog G0 27 [intsV l] [] (fun r ho => r = SV.b (cntB l) ∧ ho = []) := by
  refine start 16 0 Try.func27 rfl rfl rfl rfl ?_
  refine r1 ?_
  refine s1 2 0 1 rfl rfl rfl rfl rfl rfl trivial ?_
  refine e1 8 rfl ?_
  refine keep [0] rfl ?_
  refine r1 ?_
  refine s1 3 8 1 rfl rfl rfl rfl rfl rfl trivial ?_
  refine s1 4 16 2 rfl rfl rfl rfl rfl rfl (by first | trivial | omega | (simp only [List.length_map, List.length_append, List.length_cons, List.length_nil] at *; omega)) ?_
  refine s1 5 24 3 rfl rfl rfl rfl rfl rfl (by first | trivial | omega | (simp only [List.length_map, List.length_append, List.length_cons, List.length_nil] at *; omega)) ?_
  refine s1 6 32 4 rfl rfl rfl rfl rfl rfl trivial ?_
  refine ask 6 rfl (fun hg1_6 => ?_) (fun hg1_6 => ?_)
  · skip
    try simp only [decide_eq_true_eq, decide_eq_false_iff_not, Bool.not_eq_true', Bool.not_eq_false', beq_iff_eq, bne_iff_ne, beq_eq_false_iff_ne, Bool.and_eq_true, Bool.or_eq_true, Bool.and_eq_false_iff, Bool.or_eq_false_iff, ge_iff_le, gt_iff_lt, Int.not_lt, Int.not_le, ne_eq, Decidable.not_not, bne_eq_false_iff_eq] at hg1_6
    refine g1 3 true 6 7 5 rfl rfl rfl rfl rfl ?_
    refine s1 7 40 5 rfl rfl rfl rfl rfl rfl trivial ?_
    refine g1 3 true 6 8 6 rfl rfl rfl rfl rfl ?_
    refine s1 8 48 6 rfl rfl rfl rfl rfl rfl (by first | trivial | omega | (simp only [List.length_map, List.length_append, List.length_cons, List.length_nil] at *; omega)) ?_
    refine g1 3 true 6 9 7 rfl rfl rfl rfl rfl ?_
    refine s1 9 56 7 rfl rfl rfl rfl rfl rfl (by first | trivial | omega | (simp only [List.length_map, List.length_append, List.length_cons, List.length_nil] at *; omega)) ?_
    refine s1 10 64 8 rfl rfl rfl rfl rfl rfl trivial ?_
    refine s1 11 72 9 rfl rfl rfl rfl rfl rfl trivial ?_
    refine ask 11 rfl (fun hg1_11 => ?_) (fun hg1_11 => ?_)
    · skip
      try simp only [decide_eq_true_eq, decide_eq_false_iff_not, Bool.not_eq_true', Bool.not_eq_false', beq_iff_eq, bne_iff_ne, beq_eq_false_iff_ne, Bool.and_eq_true, Bool.or_eq_true, Bool.and_eq_false_iff, Bool.or_eq_false_iff, ge_iff_le, gt_iff_lt, Int.not_lt, Int.not_le, ne_eq, Decidable.not_not, bne_eq_false_iff_eq] at hg1_11
      refine g1 8 true 11 12 10 rfl rfl rfl rfl rfl ?_
      refine s1 12 80 10 rfl rfl rfl rfl rfl rfl trivial ?_
      refine g1 8 true 11 13 11 rfl rfl rfl rfl rfl ?_
      refine c1 (contains_any l hl) [] [] 13 88 11 rfl rfl rfl rfl rfl rfl rfl rfl Try.func52 rfl rfl rfl rfl trivial rfl rfl ?_
      refine g1 8 true 11 14 12 rfl rfl rfl rfl rfl ?_
      refine s1 14 96 12 rfl rfl rfl rfl rfl rfl trivial ?_
      refine s1 15 104 13 rfl rfl rfl rfl rfl rfl trivial ?_
      refine s1 2 112 14 rfl rfl rfl rfl rfl rfl trivial ?_
      refine e1 120 rfl ?_
      refine keep [2] rfl ?_
      refine W_ret ?_
      exact out1 2 (SV.b (cntB l)) (π := []) (hout := []) Try.results27 rfl (by show SV.b _ = SV.b _; refine congrArg SV.b (Bool.eq_iff_iff.2 ?_); cases hq : l.any badN <;> simp [cntB, hq] at * <;> omega) rfl rfl trivial ⟨rfl, rfl⟩
    · skip
      try simp only [decide_eq_true_eq, decide_eq_false_iff_not, Bool.not_eq_true', Bool.not_eq_false', beq_iff_eq, bne_iff_ne, beq_eq_false_iff_ne, Bool.and_eq_true, Bool.or_eq_true, Bool.and_eq_false_iff, Bool.or_eq_false_iff, ge_iff_le, gt_iff_lt, Int.not_lt, Int.not_le, ne_eq, Decidable.not_not, bne_eq_false_iff_eq] at hg1_11
      refine g0 8 true 11 12 10 rfl rfl rfl rfl rfl rfl ?_
      refine g0 8 true 11 13 11 rfl rfl rfl rfl rfl rfl ?_
      refine g0 8 true 11 14 12 rfl rfl rfl rfl rfl rfl ?_
      refine s1 15 104 13 rfl rfl rfl rfl rfl rfl trivial ?_
      refine s1 2 112 14 rfl rfl rfl rfl rfl rfl trivial ?_
      refine e1 120 rfl ?_
      refine keep [2] rfl ?_
      refine W_ret ?_
      exact out1 2 (SV.b (cntB l)) (π := []) (hout := []) Try.results27 rfl (by show SV.b _ = SV.b _; refine congrArg SV.b (Bool.eq_iff_iff.2 ?_); cases hq : l.any badN <;> simp [cntB, hq] at * <;> omega) rfl rfl trivial ⟨rfl, rfl⟩
  · skip
    try simp only [decide_eq_true_eq, decide_eq_false_iff_not, Bool.not_eq_true', Bool.not_eq_false', beq_iff_eq, bne_iff_ne, beq_eq_false_iff_ne, Bool.and_eq_true, Bool.or_eq_true, Bool.and_eq_false_iff, Bool.or_eq_false_iff, ge_iff_le, gt_iff_lt, Int.not_lt, Int.not_le, ne_eq, Decidable.not_not, bne_eq_false_iff_eq] at hg1_6
    refine g0 3 true 6 7 5 rfl rfl rfl rfl rfl rfl ?_
    refine g0 3 true 6 8 6 rfl rfl rfl rfl rfl rfl ?_
    refine g0 3 true 6 9 7 rfl rfl rfl rfl rfl rfl ?_
    refine s1 10 64 8 rfl rfl rfl rfl rfl rfl trivial ?_
    refine s1 11 72 9 rfl rfl rfl rfl rfl rfl trivial ?_
    refine g0 8 true 11 12 10 rfl rfl rfl rfl rfl rfl ?_
    refine g0 8 true 11 13 11 rfl rfl rfl rfl rfl rfl ?_
    refine g0 8 true 11 14 12 rfl rfl rfl rfl rfl rfl ?_
    refine s1 15 104 13 rfl rfl rfl rfl rfl rfl trivial ?_
    refine s1 2 112 14 rfl rfl rfl rfl rfl rfl trivial ?_
    refine e1 120 rfl ?_
    refine keep [2] rfl ?_
    refine W_ret ?_
    exact out1 2 (SV.b (cntB l)) (π := []) (hout := []) Try.results27 rfl (by show SV.b _ = SV.b _; refine congrArg SV.b (Bool.eq_iff_iff.2 ?_); cases hq : l.any badN <;> simp [cntB, hq] at * <;> omega) rfl rfl trivial ⟨rfl, rfl⟩

theorem countsMay_any (l : List Int) (hl : l.length ≤ 9223372036854775807) : Spec Try.prog G0 29 [intsV l] [] (fun r ho => r = SV.b (cntB l) ∧ ho = []) := by
  refine start 26 0 Try.func29 rfl rfl rfl rfl ?_
  refine r1 ?_
  refine s1 2 0 1 rfl rfl rfl rfl rfl rfl trivial ?_
  refine e1 8 rfl ?_
  refine keep [0] rfl ?_
  refine W_seq ?_
  refine r1 ?_
  refine s1 5 8 1 rfl rfl rfl rfl rfl rfl trivial ?_
  refine s1 6 16 2 rfl rfl rfl rfl rfl rfl (by first | trivial | omega | (simp only [List.length_map, List.length_append, List.length_cons, List.length_nil] at *; omega)) ?_
  refine s1 7 24 3 rfl rfl rfl rfl rfl rfl (by first | trivial | omega | (simp only [List.length_map, List.length_append, List.length_cons, List.length_nil] at *; omega)) ?_
  refine s1 8 32 4 rfl rfl rfl rfl rfl rfl trivial ?_
  refine ask 8 rfl (fun hg1_8 => ?_) (fun hg1_8 => ?_)
  · skip
    try simp only [decide_eq_true_eq, decide_eq_false_iff_not, Bool.not_eq_true', Bool.not_eq_false', beq_iff_eq, bne_iff_ne, beq_eq_false_iff_ne, Bool.and_eq_true, Bool.or_eq_true, Bool.and_eq_false_iff, Bool.or_eq_false_iff, ge_iff_le, gt_iff_lt, Int.not_lt, Int.not_le, ne_eq, Decidable.not_not, bne_eq_false_iff_eq] at hg1_8
    refine g0 3 false 8 9 5 rfl rfl rfl rfl rfl rfl ?_
    refine g0 3 false 8 10 6 rfl rfl rfl rfl rfl rfl ?_
    refine g0 3 false 8 11 7 rfl rfl rfl rfl rfl rfl ?_
    refine s1 12 64 8 rfl rfl rfl rfl rfl rfl trivial ?_
    refine e1 72 rfl ?_
    refine keep [0, 12] rfl ?_
    refine q1 rfl (fun hc1 => ?_) (fun hc1 => ?_)
    · skip
      try simp only [decide_eq_true_eq, decide_eq_false_iff_not, Bool.not_eq_true', Bool.not_eq_false', beq_iff_eq, bne_iff_ne, beq_eq_false_iff_ne, Bool.and_eq_true, Bool.or_eq_true, Bool.and_eq_false_iff, Bool.or_eq_false_iff, ge_iff_le, gt_iff_lt, Int.not_lt, Int.not_le, ne_eq, Decidable.not_not, bne_eq_false_iff_eq] at hc1
      refine r1 ?_
      refine s1 2 72 1 rfl rfl rfl rfl rfl rfl trivial ?_
      refine e1 80 rfl ?_
      refine keep [2] rfl ?_
      refine W_ret ?_
      refine tr ?_
      exact out1 2 (SV.b (cntB l)) (π := []) (hout := []) Try.results29 rfl (by show SV.b _ = SV.b _; refine congrArg SV.b (Bool.eq_iff_iff.2 ?_); first | (simp [cntB, *]; done) | (simp [cntB, *]; omega) | (simp [cntB]; omega)) rfl rfl trivial ⟨rfl, rfl⟩
    · skip
      exact absurd hc1 (by decide)
  · skip
    try simp only [decide_eq_true_eq, decide_eq_false_iff_not, Bool.not_eq_true', Bool.not_eq_false', beq_iff_eq, bne_iff_ne, beq_eq_false_iff_ne, Bool.and_eq_true, Bool.or_eq_true, Bool.and_eq_false_iff, Bool.or_eq_false_iff, ge_iff_le, gt_iff_lt, Int.not_lt, Int.not_le, ne_eq, Decidable.not_not, bne_eq_false_iff_eq] at hg1_8
    refine g1 3 false 8 9 5 rfl rfl rfl rfl rfl ?_
    refine s1 9 40 5 rfl rfl rfl rfl rfl rfl trivial ?_
    refine g1 3 false 8 10 6 rfl rfl rfl rfl rfl ?_
    refine s1 10 48 6 rfl rfl rfl rfl rfl rfl (by first | trivial | omega | (simp only [List.length_map, List.length_append, List.length_cons, List.length_nil] at *; omega)) ?_
    refine g1 3 false 8 11 7 rfl rfl rfl rfl rfl ?_
    refine s1 11 56 7 rfl rfl rfl rfl rfl rfl (by first | trivial | omega | (simp only [List.length_map, List.length_append, List.length_cons, List.length_nil] at *; omega)) ?_
    refine s1 12 64 8 rfl rfl rfl rfl rfl rfl trivial ?_
    refine e1 72 rfl ?_
    refine keep [0, 12] rfl ?_
    refine q1 rfl (fun hc1 => ?_) (fun hc1 => ?_)
    · skip
      try simp only [decide_eq_true_eq, decide_eq_false_iff_not, Bool.not_eq_true', Bool.not_eq_false', beq_iff_eq, bne_iff_ne, beq_eq_false_iff_ne, Bool.and_eq_true, Bool.or_eq_true, Bool.and_eq_false_iff, Bool.or_eq_false_iff, ge_iff_le, gt_iff_lt, Int.not_lt, Int.not_le, ne_eq, Decidable.not_not, bne_eq_false_iff_eq] at hc1
      refine r1 ?_
      refine s1 2 72 1 rfl rfl rfl rfl rfl rfl trivial ?_
      refine e1 80 rfl ?_
      refine keep [2] rfl ?_
      refine W_ret ?_
      refine tr ?_
      exact out1 2 (SV.b (cntB l)) (π := []) (hout := []) Try.results29 rfl (by show SV.b _ = SV.b _; refine congrArg SV.b (Bool.eq_iff_iff.2 ?_); first | (simp [cntB, *]; done) | (simp [cntB, *]; omega) | (simp [cntB]; omega)) rfl rfl trivial ⟨rfl, rfl⟩
    · skip
      try simp only [decide_eq_true_eq, decide_eq_false_iff_not, Bool.not_eq_true', Bool.not_eq_false', beq_iff_eq, bne_iff_ne, beq_eq_false_iff_ne, Bool.and_eq_true, Bool.or_eq_true, Bool.and_eq_false_iff, Bool.or_eq_false_iff, ge_iff_le, gt_iff_lt, Int.not_lt, Int.not_le, ne_eq, Decidable.not_not, bne_eq_false_iff_eq] at hc1
      refine W_skip ?_
      refine tn ?_
      refine W_seq ?_
      refine r1 ?_
      refine s1 13 72 1 rfl rfl rfl rfl rfl rfl trivial ?_
      refine s1 14 80 2 rfl rfl rfl rfl rfl rfl (by first | trivial | omega | (simp only [List.length_map, List.length_append, List.length_cons, List.length_nil] at *; omega)) ?_
      refine s1 15 88 3 rfl rfl rfl rfl rfl rfl trivial ?_
      refine e1 96 rfl ?_
      refine keep [13, 14, 15] rfl ?_
      refine W_block ?_
      refine loop (α := Nat) 0 (fun n => [(13, intsV l), (14, SV.i l.length), (15, SV.i n)]) (fun n => []) (fun n => n ≤ l.length ∧ ∀ j, j < n → badN (l.getD j 0) = false) (fun n => l.length - n) (0) [] (fun _ => rfl) ⟨Nat.zero_le _, fun j hj => by omega⟩ rfl ⟨rfl, rfl, rfl, trivial⟩ trivial (fun n hx => ?_)
      obtain ⟨hn, hno⟩ := hx
      refine r1 ?_
      refine s1 16 0 1 rfl rfl rfl rfl rfl rfl (by first | trivial | omega | (simp only [List.length_map, List.length_append, List.length_cons, List.length_nil] at *; omega)) ?_
      refine e1 8 rfl ?_
      refine keep [13, 14, 15, 16] rfl ?_
      refine W_seq ?_
      refine q1 rfl (fun hc4 => ?_) (fun hc4 => ?_)
      · skip
        try simp only [decide_eq_true_eq, decide_eq_false_iff_not, Bool.not_eq_true', Bool.not_eq_false', beq_iff_eq, bne_iff_ne, beq_eq_false_iff_ne, Bool.and_eq_true, Bool.or_eq_true, Bool.and_eq_false_iff, Bool.or_eq_false_iff, ge_iff_le, gt_iff_lt, Int.not_lt, Int.not_le, ne_eq, Decidable.not_not, bne_eq_false_iff_eq] at hc4
        refine W_skip ?_
        refine tn ?_
        refine W_seq ?_
        refine W_block ?_
        refine r1 ?_
        refine s1 17 8 1 rfl rfl rfl rfl rfl rfl (by first | trivial | omega | (simp only [List.length_map, List.length_append, List.length_cons, List.length_nil] at *; omega)) ?_
        refine s1 18 16 2 rfl rfl rfl rfl rfl rfl (by first | trivial | omega | (simp only [List.length_map, List.length_append, List.length_cons, List.length_nil] at *; omega)) ?_
        refine s1 4 24 3 rfl rfl rfl rfl rfl rfl trivial ?_
        refine e1 32 rfl ?_
        refine keep [4, 13, 14, 15] rfl ?_
        refine r1 ?_
        refine s1 19 32 1 rfl rfl rfl rfl rfl rfl trivial ?_
        refine s1 20 40 2 rfl rfl rfl rfl rfl rfl (by first | trivial | omega | (simp only [List.length_map, List.length_append, List.length_cons, List.length_nil] at *; omega)) ?_
        refine s1 21 48 3 rfl rfl rfl rfl rfl rfl trivial ?_
        refine ask 21 rfl (fun hg6_21 => ?_) (fun hg6_21 => ?_)
        · skip
          try simp only [decide_eq_true_eq, decide_eq_false_iff_not, Bool.not_eq_true', Bool.not_eq_false', beq_iff_eq, bne_iff_ne, beq_eq_false_iff_ne, Bool.and_eq_true, Bool.or_eq_true, Bool.and_eq_false_iff, Bool.or_eq_false_iff, ge_iff_le, gt_iff_lt, Int.not_lt, Int.not_le, ne_eq, Decidable.not_not, bne_eq_false_iff_eq] at hg6_21
          refine g0 2 false 21 22 4 rfl rfl rfl rfl rfl rfl ?_
          refine g0 2 false 21 23 5 rfl rfl rfl rfl rfl rfl ?_
          refine s1 24 72 6 rfl rfl rfl rfl rfl rfl trivial ?_
          refine e1 80 rfl ?_
          refine keep [13, 14, 15, 24] rfl ?_
          refine q1 rfl (fun hc6 => ?_) (fun hc6 => ?_)
          · skip
            try simp only [decide_eq_true_eq, decide_eq_false_iff_not, Bool.not_eq_true', Bool.not_eq_false', beq_iff_eq, bne_iff_ne, beq_eq_false_iff_ne, Bool.and_eq_true, Bool.or_eq_true, Bool.and_eq_false_iff, Bool.or_eq_false_iff, ge_iff_le, gt_iff_lt, Int.not_lt, Int.not_le, ne_eq, Decidable.not_not, bne_eq_false_iff_eq] at hc6
            refine r1 ?_
            refine s1 2 80 1 rfl rfl rfl rfl rfl rfl trivial ?_
            refine e1 88 rfl ?_
            refine keep [2] rfl ?_
            refine W_ret ?_
            refine br ?_
            refine tr ?_
            refine tr ?_
            refine br ?_
            refine tr ?_
            exact out1 2 (SV.b (cntB l)) (π := []) (hout := []) Try.results29 rfl (by have hb : badN (l.getD n 0) = true := (by clear hno; simp only [Int.toNat_natCast] at *; generalize l.getD n 0 = a at *; simp [badN] at *; omega); have := any_at (by omega) hb; show SV.b _ = SV.b _; refine congrArg SV.b ?_; simp [cntB, this]) rfl rfl trivial ⟨rfl, rfl⟩
          · skip
            exact absurd hc6 (by decide)
        · skip
          try simp only [decide_eq_true_eq, decide_eq_false_iff_not, Bool.not_eq_true', Bool.not_eq_false', beq_iff_eq, bne_iff_ne, beq_eq_false_iff_ne, Bool.and_eq_true, Bool.or_eq_true, Bool.and_eq_false_iff, Bool.or_eq_false_iff, ge_iff_le, gt_iff_lt, Int.not_lt, Int.not_le, ne_eq, Decidable.not_not, bne_eq_false_iff_eq] at hg6_21
          refine g1 2 false 21 22 4 rfl rfl rfl rfl rfl ?_
          refine s1 22 56 4 rfl rfl rfl rfl rfl rfl trivial ?_
          refine g1 2 false 21 23 5 rfl rfl rfl rfl rfl ?_
          refine s1 23 64 5 rfl rfl rfl rfl rfl rfl (by first | trivial | omega | (simp only [List.length_map, List.length_append, List.length_cons, List.length_nil] at *; omega)) ?_
          refine s1 24 72 6 rfl rfl rfl rfl rfl rfl trivial ?_
          refine e1 80 rfl ?_
          refine keep [13, 14, 15, 24] rfl ?_
          refine q1 rfl (fun hc6 => ?_) (fun hc6 => ?_)
          · skip
            try simp only [decide_eq_true_eq, decide_eq_false_iff_not, Bool.not_eq_true', Bool.not_eq_false', beq_iff_eq, bne_iff_ne, beq_eq_false_iff_ne, Bool.and_eq_true, Bool.or_eq_true, Bool.and_eq_false_iff, Bool.or_eq_false_iff, ge_iff_le, gt_iff_lt, Int.not_lt, Int.not_le, ne_eq, Decidable.not_not, bne_eq_false_iff_eq] at hc6
            refine r1 ?_
            refine s1 2 80 1 rfl rfl rfl rfl rfl rfl trivial ?_
            refine e1 88 rfl ?_
            refine keep [2] rfl ?_
            refine W_ret ?_
            refine br ?_
            refine tr ?_
            refine tr ?_
            refine br ?_
            refine tr ?_
            exact out1 2 (SV.b (cntB l)) (π := []) (hout := []) Try.results29 rfl (by have hb : badN (l.getD n 0) = true := (by clear hno; simp only [Int.toNat_natCast] at *; generalize l.getD n 0 = a at *; simp [badN] at *; omega); have := any_at (by omega) hb; show SV.b _ = SV.b _; refine congrArg SV.b ?_; simp [cntB, this]) rfl rfl trivial ⟨rfl, rfl⟩
          · skip
            try simp only [decide_eq_true_eq, decide_eq_false_iff_not, Bool.not_eq_true', Bool.not_eq_false', beq_iff_eq, bne_iff_ne, beq_eq_false_iff_ne, Bool.and_eq_true, Bool.or_eq_true, Bool.and_eq_false_iff, Bool.or_eq_false_iff, ge_iff_le, gt_iff_lt, Int.not_lt, Int.not_le, ne_eq, Decidable.not_not, bne_eq_false_iff_eq] at hc6
            refine W_skip ?_
            refine bn ?_
            refine tn ?_
            refine r0 ?_
            refine sA 25 80 1 rfl rfl rfl rfl rfl rfl rfl rfl rfl (by unfold inRange; omega) ?_
            refine s1 15 88 2 rfl rfl rfl rfl rfl rfl trivial ?_
            refine e1 96 rfl ?_
            refine tn ?_
            exact again (n + 1) [] ⟨by omega, fun j hj => by by_cases e : j = n; (subst e; clear hno; simp only [Int.toNat_natCast] at *; generalize l.getD j 0 = a at *; simp [badN] at *; omega); exact hno j (by omega)⟩ (by omega) rfl ⟨rfl, rfl, rfl, trivial⟩ trivial
      · skip
        try simp only [decide_eq_true_eq, decide_eq_false_iff_not, Bool.not_eq_true', Bool.not_eq_false', beq_iff_eq, bne_iff_ne, beq_eq_false_iff_ne, Bool.and_eq_true, Bool.or_eq_true, Bool.and_eq_false_iff, Bool.or_eq_false_iff, ge_iff_le, gt_iff_lt, Int.not_lt, Int.not_le, ne_eq, Decidable.not_not, bne_eq_false_iff_eq] at hc4
        refine W_exit ?_
        refine tx ?_
        refine tx ?_
        refine bx ?_
        refine tn ?_
        refine r1 ?_
        refine s1 2 8 1 rfl rfl rfl rfl rfl rfl trivial ?_
        refine e1 16 rfl ?_
        refine keep [2] rfl ?_
        refine W_ret ?_
        exact out1 2 (SV.b (cntB l)) (π := []) (hout := []) Try.results29 rfl (by have := any_none (fun j hj => hno j (by omega)); show SV.b _ = SV.b _; refine congrArg SV.b (Bool.eq_iff_iff.2 ?_); simp [cntB, this]; omega) rfl rfl trivial ⟨rfl, rfl⟩

theorem bounded_any (l : List Int) (hl : l.length ≤ 9223372036854775807) : Spec Try.prog G0 30 [intsV l] [] (fun r ho => r = SV.b (bndB l) ∧ ho = []) := by
  refine start 27 0 Try.func30 rfl rfl rfl rfl ?_
  refine r1 ?_
  refine s1 2 0 1 rfl rfl rfl rfl rfl rfl trivial ?_
  refine e1 8 rfl ?_
  refine keep [0] rfl ?_
  refine W_seq ?_
  refine r1 ?_
  refine s1 4 8 1 rfl rfl rfl rfl rfl rfl trivial ?_
  refine s1 5 16 2 rfl rfl rfl rfl rfl rfl (by first | trivial | omega | (simp only [List.length_map, List.length_append, List.length_cons, List.length_nil] at *; omega)) ?_
  refine s1 6 24 3 rfl rfl rfl rfl rfl rfl trivial ?_
  refine e1 32 rfl ?_
  refine keep [0, 5, 6] rfl ?_
  refine W_block ?_
  refine loop (α := Nat) 0 (fun n => [(0, intsV l), (5, SV.i l.length), (6, SV.i n)]) (fun n => []) (fun n => n ≤ l.length ∧ ∀ j, j < n → 0 < j → l.getD (j - 1) 0 < l.getD j 0) (fun n => l.length - n) (0) [] (fun _ => rfl) ⟨Nat.zero_le _, fun j hj => by omega⟩ rfl ⟨rfl, rfl, rfl, trivial⟩ trivial (fun n hx => ?_)
  obtain ⟨hn, hno⟩ := hx
  refine r1 ?_
  refine s1 7 0 1 rfl rfl rfl rfl rfl rfl (by first | trivial | omega | (simp only [List.length_map, List.length_append, List.length_cons, List.length_nil] at *; omega)) ?_
  refine e1 8 rfl ?_
  refine keep [0, 5, 6, 7] rfl ?_
  refine W_seq ?_
  refine q1 rfl (fun hc2 => ?_) (fun hc2 => ?_)
  · skip
    try simp only [decide_eq_true_eq, decide_eq_false_iff_not, Bool.not_eq_true', Bool.not_eq_false', beq_iff_eq, bne_iff_ne, beq_eq_false_iff_ne, Bool.and_eq_true, Bool.or_eq_true, Bool.and_eq_false_iff, Bool.or_eq_false_iff, ge_iff_le, gt_iff_lt, Int.not_lt, Int.not_le, ne_eq, Decidable.not_not, bne_eq_false_iff_eq] at hc2
    refine W_skip ?_
    refine tn ?_
    refine W_seq ?_
    refine W_block ?_
    refine r1 ?_
    refine s1 8 8 1 rfl rfl rfl rfl rfl rfl trivial ?_
    refine s1 3 16 2 rfl rfl rfl rfl rfl rfl trivial ?_
    refine e1 24 rfl ?_
    refine keep [0, 3, 5, 6] rfl ?_
    refine rd1 rfl ?_
    refine d1 9 24 1 rfl rfl rfl rfl rfl rfl trivial ?_
    refine d1 10 32 2 rfl rfl rfl rfl rfl rfl (by first | trivial | omega | (simp only [List.length_map, List.length_append, List.length_cons, List.length_nil] at *; omega)) ?_
    refine d1 11 40 3 rfl rfl rfl rfl rfl rfl trivial ?_
    refine ask 11 rfl (fun hg4_11 => ?_) (fun hg4_11 => ?_)
    · skip
      try simp only [decide_eq_true_eq, decide_eq_false_iff_not, Bool.not_eq_true', Bool.not_eq_false', beq_iff_eq, bne_iff_ne, beq_eq_false_iff_ne, Bool.and_eq_true, Bool.or_eq_true, Bool.and_eq_false_iff, Bool.or_eq_false_iff, ge_iff_le, gt_iff_lt, Int.not_lt, Int.not_le, ne_eq, Decidable.not_not, bne_eq_false_iff_eq] at hg4_11
      refine g1 2 true 11 12 4 rfl rfl rfl rfl rfl ?_
      refine d1 12 48 4 rfl rfl rfl rfl rfl rfl trivial ?_
      refine g1 2 true 11 13 5 rfl rfl rfl rfl rfl ?_
      refine d1 13 56 5 rfl rfl rfl rfl rfl rfl trivial ?_
      refine g1 2 true 11 14 6 rfl rfl rfl rfl rfl ?_
      refine dA 14 64 6 rfl rfl rfl rfl rfl rfl rfl rfl rfl (by unfold inRange; omega) ?_
      refine g1 2 true 11 15 7 rfl rfl rfl rfl rfl ?_
      refine d1 15 72 7 rfl rfl rfl rfl rfl rfl (by first | trivial | omega | (simp only [List.length_map, List.length_append, List.length_cons, List.length_nil] at *; omega)) ?_
      refine g1 2 true 11 16 8 rfl rfl rfl rfl rfl ?_
      refine d1 16 80 8 rfl rfl rfl rfl rfl rfl (by first | trivial | omega | (simp only [List.length_map, List.length_append, List.length_cons, List.length_nil] at *; omega)) ?_
      refine g1 2 true 11 17 9 rfl rfl rfl rfl rfl ?_
      refine d1 17 88 9 rfl rfl rfl rfl rfl rfl trivial ?_
      refine g1 2 true 11 18 10 rfl rfl rfl rfl rfl ?_
      refine d1 18 96 10 rfl rfl rfl rfl rfl rfl trivial ?_
      refine g1 2 true 11 19 11 rfl rfl rfl rfl rfl ?_
      refine d1 19 104 11 rfl rfl rfl rfl rfl rfl (by first | trivial | omega | (simp only [List.length_map, List.length_append, List.length_cons, List.length_nil] at *; omega)) ?_
      refine g1 2 true 11 20 12 rfl rfl rfl rfl rfl ?_
      refine d1 20 112 12 rfl rfl rfl rfl rfl rfl (by first | trivial | omega | (simp only [List.length_map, List.length_append, List.length_cons, List.length_nil] at *; omega)) ?_
      refine g1 2 true 11 21 13 rfl rfl rfl rfl rfl ?_
      refine d1 21 120 13 rfl rfl rfl rfl rfl rfl (by first | trivial | omega | (simp only [List.length_map, List.length_append, List.length_cons, List.length_nil] at *; omega)) ?_
      refine d1 22 128 14 rfl rfl rfl rfl rfl rfl trivial ?_
      refine de1 136 rfl (by kernel_rfl) ?_
      refine keep [0, 5, 6, 22] rfl ?_
      refine q1 rfl (fun hc4 => ?_) (fun hc4 => ?_)
      · skip
        try simp only [decide_eq_true_eq, decide_eq_false_iff_not, Bool.not_eq_true', Bool.not_eq_false', beq_iff_eq, bne_iff_ne, beq_eq_false_iff_ne, Bool.and_eq_true, Bool.or_eq_true, Bool.and_eq_false_iff, Bool.or_eq_false_iff, ge_iff_le, gt_iff_lt, Int.not_lt, Int.not_le, ne_eq, Decidable.not_not, bne_eq_false_iff_eq] at hc4
        refine r1 ?_
        refine s1 2 136 1 rfl rfl rfl rfl rfl rfl trivial ?_
        refine e1 144 rfl ?_
        refine keep [2] rfl ?_
        refine W_ret ?_
        refine br ?_
        refine tr ?_
        refine tr ?_
        refine br ?_
        refine tr ?_
        exact out1 2 (SV.b (bndB l)) (π := []) (hout := []) Try.results30 rfl (by have e1 : ((n : Int) - 1).toNat = n - 1 := (by omega); have h1 : l.getD n 0 ≤ l.getD (n - 1) 0 := (by simp only [e1, Int.toNat_natCast] at *; omega); show SV.b _ = SV.b _; refine congrArg SV.b ?_; simp [bndB, asc_not (by omega) (by omega) h1]) rfl rfl trivial ⟨rfl, rfl⟩
      · skip
        try simp only [decide_eq_true_eq, decide_eq_false_iff_not, Bool.not_eq_true', Bool.not_eq_false', beq_iff_eq, bne_iff_ne, beq_eq_false_iff_ne, Bool.and_eq_true, Bool.or_eq_true, Bool.and_eq_false_iff, Bool.or_eq_false_iff, ge_iff_le, gt_iff_lt, Int.not_lt, Int.not_le, ne_eq, Decidable.not_not, bne_eq_false_iff_eq] at hc4
        refine W_skip ?_
        refine bn ?_
        refine tn ?_
        refine r0 ?_
        refine sA 23 136 1 rfl rfl rfl rfl rfl rfl rfl rfl rfl (by unfold inRange; omega) ?_
        refine s1 6 144 2 rfl rfl rfl rfl rfl rfl trivial ?_
        refine e1 152 rfl ?_
        refine tn ?_
        exact again (n + 1) [] ⟨by omega, fun j hj h0 => by by_cases e : j = n; (subst e; have e1 : ((j : Int) - 1).toNat = j - 1 := (by omega); simp only [e1, Int.toNat_natCast] at *; omega); exact hno j (by omega) h0⟩ (by omega) rfl ⟨rfl, rfl, rfl, trivial⟩ trivial
    · skip
      try simp only [decide_eq_true_eq, decide_eq_false_iff_not, Bool.not_eq_true', Bool.not_eq_false', beq_iff_eq, bne_iff_ne, beq_eq_false_iff_ne, Bool.and_eq_true, Bool.or_eq_true, Bool.and_eq_false_iff, Bool.or_eq_false_iff, ge_iff_le, gt_iff_lt, Int.not_lt, Int.not_le, ne_eq, Decidable.not_not, bne_eq_false_iff_eq] at hg4_11
      refine g0 2 true 11 12 4 rfl rfl rfl rfl rfl rfl ?_
      refine g0 2 true 11 13 5 rfl rfl rfl rfl rfl rfl ?_
      refine g0 2 true 11 14 6 rfl rfl rfl rfl rfl rfl ?_
      refine g0 2 true 11 15 7 rfl rfl rfl rfl rfl rfl ?_
      refine g0 2 true 11 16 8 rfl rfl rfl rfl rfl rfl ?_
      refine g0 2 true 11 17 9 rfl rfl rfl rfl rfl rfl ?_
      refine g0 2 true 11 18 10 rfl rfl rfl rfl rfl rfl ?_
      refine g0 2 true 11 19 11 rfl rfl rfl rfl rfl rfl ?_
      refine g0 2 true 11 20 12 rfl rfl rfl rfl rfl rfl ?_
      refine g0 2 true 11 21 13 rfl rfl rfl rfl rfl rfl ?_
      refine d1 22 128 14 rfl rfl rfl rfl rfl rfl trivial ?_
      refine de1 136 rfl (by kernel_rfl) ?_
      refine keep [0, 5, 6, 22] rfl ?_
      refine q1 rfl (fun hc4 => ?_) (fun hc4 => ?_)
      · skip
        exact absurd hc4 (by decide)
      · skip
        try simp only [decide_eq_true_eq, decide_eq_false_iff_not, Bool.not_eq_true', Bool.not_eq_false', beq_iff_eq, bne_iff_ne, beq_eq_false_iff_ne, Bool.and_eq_true, Bool.or_eq_true, Bool.and_eq_false_iff, Bool.or_eq_false_iff, ge_iff_le, gt_iff_lt, Int.not_lt, Int.not_le, ne_eq, Decidable.not_not, bne_eq_false_iff_eq] at hc4
        refine W_skip ?_
        refine bn ?_
        refine tn ?_
        refine r0 ?_
        refine sA 23 136 1 rfl rfl rfl rfl rfl rfl rfl rfl rfl (by unfold inRange; omega) ?_
        refine s1 6 144 2 rfl rfl rfl rfl rfl rfl trivial ?_
        refine e1 152 rfl ?_
        refine tn ?_
        exact again (n + 1) [] ⟨by omega, fun j hj h0 => by by_cases e : j = n; (subst e; have e1 : ((j : Int) - 1).toNat = j - 1 := (by omega); simp only [e1, Int.toNat_natCast] at *; omega); exact hno j (by omega) h0⟩ (by omega) rfl ⟨rfl, rfl, rfl, trivial⟩ trivial
  · skip
    try simp only [decide_eq_true_eq, decide_eq_false_iff_not, Bool.not_eq_true', Bool.not_eq_false', beq_iff_eq, bne_iff_ne, beq_eq_false_iff_ne, Bool.and_eq_true, Bool.or_eq_true, Bool.and_eq_false_iff, Bool.or_eq_false_iff, ge_iff_le, gt_iff_lt, Int.not_lt, Int.not_le, ne_eq, Decidable.not_not, bne_eq_false_iff_eq] at hc2
    refine W_exit ?_
    refine tx ?_
    refine tx ?_
    refine bx ?_
    refine tn ?_
    refine r1 ?_
    refine s1 24 8 1 rfl rfl rfl rfl rfl rfl trivial ?_
    refine s1 25 16 2 rfl rfl rfl rfl rfl rfl (by first | trivial | omega | (simp only [List.length_map, List.length_append, List.length_cons, List.length_nil] at *; omega)) ?_
    refine s1 26 24 3 rfl rfl rfl rfl rfl rfl (by first | trivial | omega | (simp only [List.length_map, List.length_append, List.length_cons, List.length_nil] at *; omega)) ?_
    refine s1 2 32 4 rfl rfl rfl rfl rfl rfl trivial ?_
    refine e1 40 rfl ?_
    refine keep [2] rfl ?_
    refine W_ret ?_
    exact out1 2 (SV.b (bndB l)) (π := []) (hout := []) Try.results30 rfl (by show SV.b _ = SV.b _; refine congrArg SV.b (Bool.eq_iff_iff.2 ?_); simp [bndB, asc_all (fun j hj => hno j (by omega))]; try omega) rfl rfl trivial ⟨rfl, rfl⟩

theorem boundsMay_any (l : List Int) (hl : l.length ≤ 9223372036854775807) : Spec Try.prog G0 32 [intsV l] [] (fun r ho => r = SV.b (bndB l) ∧ ho = []) := by
  refine start 23 0 Try.func32 rfl rfl rfl rfl ?_
  refine r1 ?_
  refine s1 2 0 1 rfl rfl rfl rfl rfl rfl trivial ?_
  refine e1 8 rfl ?_
  refine keep [0] rfl ?_
  refine W_seq ?_
  refine r1 ?_
  refine s1 4 8 1 rfl rfl rfl rfl rfl rfl trivial ?_
  refine s1 5 16 2 rfl rfl rfl rfl rfl rfl (by first | trivial | omega | (simp only [List.length_map, List.length_append, List.length_cons, List.length_nil] at *; omega)) ?_
  refine s1 6 24 3 rfl rfl rfl rfl rfl rfl (by first | trivial | omega | (simp only [List.length_map, List.length_append, List.length_cons, List.length_nil] at *; omega)) ?_
  refine e1 32 rfl ?_
  refine keep [0, 6] rfl ?_
  refine q1 rfl (fun hc1 => ?_) (fun hc1 => ?_)
  · skip
    try simp only [decide_eq_true_eq, decide_eq_false_iff_not, Bool.not_eq_true', Bool.not_eq_false', beq_iff_eq, bne_iff_ne, beq_eq_false_iff_ne, Bool.and_eq_true, Bool.or_eq_true, Bool.and_eq_false_iff, Bool.or_eq_false_iff, ge_iff_le, gt_iff_lt, Int.not_lt, Int.not_le, ne_eq, Decidable.not_not, bne_eq_false_iff_eq] at hc1
    refine r1 ?_
    refine s1 2 32 1 rfl rfl rfl rfl rfl rfl trivial ?_
    refine e1 40 rfl ?_
    refine keep [2] rfl ?_
    refine W_ret ?_
    refine tr ?_
    exact out1 2 (SV.b (bndB l)) (π := []) (hout := []) Try.results32 rfl (by show SV.b _ = SV.b _; refine congrArg SV.b (Bool.eq_iff_iff.2 ?_); first | (simp [bndB, *]; done) | (simp [bndB, *]; omega) | (simp [bndB]; omega)) rfl rfl trivial ⟨rfl, rfl⟩
  · skip
    try simp only [decide_eq_true_eq, decide_eq_false_iff_not, Bool.not_eq_true', Bool.not_eq_false', beq_iff_eq, bne_iff_ne, beq_eq_false_iff_ne, Bool.and_eq_true, Bool.or_eq_true, Bool.and_eq_false_iff, Bool.or_eq_false_iff, ge_iff_le, gt_iff_lt, Int.not_lt, Int.not_le, ne_eq, Decidable.not_not, bne_eq_false_iff_eq] at hc1
    refine W_skip ?_
    refine tn ?_
    refine W_seq ?_
    refine r1 ?_
    refine s1 3 32 1 rfl rfl rfl rfl rfl rfl trivial ?_
    refine e1 40 rfl ?_
    refine keep [0, 3] rfl ?_
    refine W_block ?_
    refine loop (α := Nat) 0 (fun n => [(0, intsV l), (3, SV.i n)]) (fun n => []) (fun n => 1 ≤ n ∧ (n ≤ l.length ∨ n = 1) ∧ ∀ j, j < n → 0 < j → l.getD (j - 1) 0 < l.getD j 0) (fun n => l.length - n) (1) [] (fun _ => rfl) ⟨Nat.le_refl _, .inr rfl, fun j hj => by omega⟩ rfl ⟨rfl, rfl, trivial⟩ trivial (fun n hx => ?_)
    obtain ⟨h1n, hn, hno⟩ := hx
    refine W_seq ?_
    refine r1 ?_
    refine s1 7 0 1 rfl rfl rfl rfl rfl rfl trivial ?_
    refine s1 8 8 2 rfl rfl rfl rfl rfl rfl trivial ?_
    refine s1 9 16 3 rfl rfl rfl rfl rfl rfl (by first | trivial | omega | (simp only [List.length_map, List.length_append, List.length_cons, List.length_nil] at *; omega)) ?_
    refine s1 10 24 4 rfl rfl rfl rfl rfl rfl (by first | trivial | omega | (simp only [List.length_map, List.length_append, List.length_cons, List.length_nil] at *; omega)) ?_
    refine e1 32 rfl ?_
    refine keep [0, 3, 10] rfl ?_
    refine q1 rfl (fun hc4 => ?_) (fun hc4 => ?_)
    · skip
      try simp only [decide_eq_true_eq, decide_eq_false_iff_not, Bool.not_eq_true', Bool.not_eq_false', beq_iff_eq, bne_iff_ne, beq_eq_false_iff_ne, Bool.and_eq_true, Bool.or_eq_true, Bool.and_eq_false_iff, Bool.or_eq_false_iff, ge_iff_le, gt_iff_lt, Int.not_lt, Int.not_le, ne_eq, Decidable.not_not, bne_eq_false_iff_eq] at hc4
      refine W_skip ?_
      refine tn ?_
      refine W_seq ?_
      refine W_block ?_
      refine rd1 rfl ?_
      refine d1 13 32 1 rfl rfl rfl rfl rfl rfl trivial ?_
      refine d1 14 40 2 rfl rfl rfl rfl rfl rfl trivial ?_
      refine d1 15 48 3 rfl rfl rfl rfl rfl rfl (by first | trivial | omega | (simp only [List.length_map, List.length_append, List.length_cons, List.length_nil] at *; omega)) ?_
      refine d1 16 56 4 rfl rfl rfl rfl rfl rfl (by first | trivial | omega | (simp only [List.length_map, List.length_append, List.length_cons, List.length_nil] at *; omega)) ?_
      refine d1 17 64 5 rfl rfl rfl rfl rfl rfl trivial ?_
      refine d1 18 72 6 rfl rfl rfl rfl rfl rfl trivial ?_
      refine dA 19 80 7 rfl rfl rfl rfl rfl rfl rfl rfl rfl (by unfold inRange; omega) ?_
      refine d1 20 88 8 rfl rfl rfl rfl rfl rfl (by first | trivial | omega | (simp only [List.length_map, List.length_append, List.length_cons, List.length_nil] at *; omega)) ?_
      refine d1 21 96 9 rfl rfl rfl rfl rfl rfl (by first | trivial | omega | (simp only [List.length_map, List.length_append, List.length_cons, List.length_nil] at *; omega)) ?_
      refine d1 22 104 10 rfl rfl rfl rfl rfl rfl (by first | trivial | omega | (simp only [List.length_map, List.length_append, List.length_cons, List.length_nil] at *; omega)) ?_
      refine de1 112 rfl (by kernel_rfl) ?_
      refine keep [0, 3, 22] rfl ?_
      refine q1 rfl (fun hc6 => ?_) (fun hc6 => ?_)
      · skip
        try simp only [decide_eq_true_eq, decide_eq_false_iff_not, Bool.not_eq_true', Bool.not_eq_false', beq_iff_eq, bne_iff_ne, beq_eq_false_iff_ne, Bool.and_eq_true, Bool.or_eq_true, Bool.and_eq_false_iff, Bool.or_eq_false_iff, ge_iff_le, gt_iff_lt, Int.not_lt, Int.not_le, ne_eq, Decidable.not_not, bne_eq_false_iff_eq] at hc6
        refine r1 ?_
        refine s1 2 112 1 rfl rfl rfl rfl rfl rfl trivial ?_
        refine e1 120 rfl ?_
        refine keep [2] rfl ?_
        refine W_ret ?_
        refine br ?_
        refine tr ?_
        refine tr ?_
        refine br ?_
        refine tr ?_
        exact out1 2 (SV.b (bndB l)) (π := []) (hout := []) Try.results32 rfl (by have e1 : ((n : Int) - 1).toNat = n - 1 := (by omega); have h1 : l.getD n 0 ≤ l.getD (n - 1) 0 := (by simp only [e1, Int.toNat_natCast] at *; omega); show SV.b _ = SV.b _; refine congrArg SV.b ?_; simp [bndB, asc_not (by omega) (by omega) h1]) rfl rfl trivial ⟨rfl, rfl⟩
      · skip
        try simp only [decide_eq_true_eq, decide_eq_false_iff_not, Bool.not_eq_true', Bool.not_eq_false', beq_iff_eq, bne_iff_ne, beq_eq_false_iff_ne, Bool.and_eq_true, Bool.or_eq_true, Bool.and_eq_false_iff, Bool.or_eq_false_iff, ge_iff_le, gt_iff_lt, Int.not_lt, Int.not_le, ne_eq, Decidable.not_not, bne_eq_false_iff_eq] at hc6
        refine W_skip ?_
        refine bn ?_
        refine tn ?_
        refine r0 ?_
        refine s1 11 112 1 rfl rfl rfl rfl rfl rfl trivial ?_
        refine sA 12 120 2 rfl rfl rfl rfl rfl rfl rfl rfl rfl (by unfold inRange; omega) ?_
        refine s1 3 128 3 rfl rfl rfl rfl rfl rfl trivial ?_
        refine e1 136 rfl ?_
        refine tn ?_
        exact again (n + 1) [] ⟨by omega, by omega, fun j hj h0 => by by_cases e : j = n; (subst e; have e1 : ((j : Int) - 1).toNat = j - 1 := (by omega); simp only [e1, Int.toNat_natCast] at *; omega); exact hno j (by omega) h0⟩ (by omega) rfl ⟨rfl, rfl, trivial⟩ trivial
    · skip
      try simp only [decide_eq_true_eq, decide_eq_false_iff_not, Bool.not_eq_true', Bool.not_eq_false', beq_iff_eq, bne_iff_ne, beq_eq_false_iff_ne, Bool.and_eq_true, Bool.or_eq_true, Bool.and_eq_false_iff, Bool.or_eq_false_iff, ge_iff_le, gt_iff_lt, Int.not_lt, Int.not_le, ne_eq, Decidable.not_not, bne_eq_false_iff_eq] at hc4
      refine W_exit ?_
      refine tx ?_
      refine tx ?_
      refine bx ?_
      refine tn ?_
      refine r1 ?_
      refine s1 2 32 1 rfl rfl rfl rfl rfl rfl trivial ?_
      refine e1 40 rfl ?_
      refine keep [2] rfl ?_
      refine W_ret ?_
      exact out1 2 (SV.b (bndB l)) (π := []) (hout := []) Try.results32 rfl (by show SV.b _ = SV.b _; refine congrArg SV.b (Bool.eq_iff_iff.2 ?_); simp [bndB, asc_all (fun j hj => hno j (by omega))]; try omega) rfl rfl trivial ⟨rfl, rfl⟩

theorem share_any (p t : Int) : Spec Try.prog G0 31 [SV.i p, SV.i t] [] (fun r ho => r = SV.b (shareB p t) ∧ ho = []) := by
  refine start 20 0 Try.func31 rfl rfl rfl rfl ?_
  refine r1 ?_
  refine s1 4 0 1 rfl rfl rfl rfl rfl rfl trivial ?_
  refine e1 8 rfl ?_
  refine keep [0, 1] rfl ?_
  refine r1 ?_
  refine s1 5 8 1 rfl rfl rfl rfl rfl rfl trivial ?_
  refine s1 6 16 2 rfl rfl rfl rfl rfl rfl (by first | trivial | omega | (simp only [List.length_map, List.length_append, List.length_cons, List.length_nil] at *; omega)) ?_
  refine s1 7 24 3 rfl rfl rfl rfl rfl rfl trivial ?_
  refine ask 7 rfl (fun hg1_7 => ?_) (fun hg1_7 => ?_)
  · skip
    try simp only [decide_eq_true_eq, decide_eq_false_iff_not, Bool.not_eq_true', Bool.not_eq_false', beq_iff_eq, bne_iff_ne, beq_eq_false_iff_ne, Bool.and_eq_true, Bool.or_eq_true, Bool.and_eq_false_iff, Bool.or_eq_false_iff, ge_iff_le, gt_iff_lt, Int.not_lt, Int.not_le, ne_eq, Decidable.not_not, bne_eq_false_iff_eq] at hg1_7
    refine g1 2 true 7 8 4 rfl rfl rfl rfl rfl ?_
    refine s1 8 32 4 rfl rfl rfl rfl rfl rfl trivial ?_
    refine g1 2 true 7 9 5 rfl rfl rfl rfl rfl ?_
    refine s1 9 40 5 rfl rfl rfl rfl rfl rfl (by first | trivial | omega | (simp only [List.length_map, List.length_append, List.length_cons, List.length_nil] at *; omega)) ?_
    refine s1 10 48 6 rfl rfl rfl rfl rfl rfl trivial ?_
    refine s1 11 56 7 rfl rfl rfl rfl rfl rfl trivial ?_
    refine ask 11 rfl (fun hg1_11 => ?_) (fun hg1_11 => ?_)
    · skip
      try simp only [decide_eq_true_eq, decide_eq_false_iff_not, Bool.not_eq_true', Bool.not_eq_false', beq_iff_eq, bne_iff_ne, beq_eq_false_iff_ne, Bool.and_eq_true, Bool.or_eq_true, Bool.and_eq_false_iff, Bool.or_eq_false_iff, ge_iff_le, gt_iff_lt, Int.not_lt, Int.not_le, ne_eq, Decidable.not_not, bne_eq_false_iff_eq] at hg1_11
      refine g1 6 true 11 12 8 rfl rfl rfl rfl rfl ?_
      refine s1 12 64 8 rfl rfl rfl rfl rfl rfl trivial ?_
      refine g1 6 true 11 13 9 rfl rfl rfl rfl rfl ?_
      refine s1 13 72 9 rfl rfl rfl rfl rfl rfl (by first | trivial | omega | (simp only [List.length_map, List.length_append, List.length_cons, List.length_nil] at *; omega)) ?_
      refine s1 14 80 10 rfl rfl rfl rfl rfl rfl trivial ?_
      refine s1 15 88 11 rfl rfl rfl rfl rfl rfl trivial ?_
      refine ask 15 rfl (fun hg1_15 => ?_) (fun hg1_15 => ?_)
      · skip
        try simp only [decide_eq_true_eq, decide_eq_false_iff_not, Bool.not_eq_true', Bool.not_eq_false', beq_iff_eq, bne_iff_ne, beq_eq_false_iff_ne, Bool.and_eq_true, Bool.or_eq_true, Bool.and_eq_false_iff, Bool.or_eq_false_iff, ge_iff_le, gt_iff_lt, Int.not_lt, Int.not_le, ne_eq, Decidable.not_not, bne_eq_false_iff_eq] at hg1_15
        refine g1 10 true 15 16 12 rfl rfl rfl rfl rfl ?_
        refine s1 16 96 12 rfl rfl rfl rfl rfl rfl trivial ?_
        refine g1 10 true 15 17 13 rfl rfl rfl rfl rfl ?_
        refine s1 17 104 13 rfl rfl rfl rfl rfl rfl trivial ?_
        refine g1 10 true 15 18 14 rfl rfl rfl rfl rfl ?_
        refine s1 18 112 14 rfl rfl rfl rfl rfl rfl (by first | trivial | omega | (simp only [List.length_map, List.length_append, List.length_cons, List.length_nil] at *; omega)) ?_
        refine s1 19 120 15 rfl rfl rfl rfl rfl rfl trivial ?_
        refine s1 4 128 16 rfl rfl rfl rfl rfl rfl trivial ?_
        refine e1 136 rfl ?_
        refine keep [4] rfl ?_
        refine W_ret ?_
        exact out1 4 (SV.b (shareB p t)) (π := []) (hout := []) Try.results31 rfl (by show SV.b _ = SV.b _; refine congrArg SV.b (Bool.eq_iff_iff.2 ?_); simp [shareB]; omega) rfl rfl trivial ⟨rfl, rfl⟩
      · skip
        try simp only [decide_eq_true_eq, decide_eq_false_iff_not, Bool.not_eq_true', Bool.not_eq_false', beq_iff_eq, bne_iff_ne, beq_eq_false_iff_ne, Bool.and_eq_true, Bool.or_eq_true, Bool.and_eq_false_iff, Bool.or_eq_false_iff, ge_iff_le, gt_iff_lt, Int.not_lt, Int.not_le, ne_eq, Decidable.not_not, bne_eq_false_iff_eq] at hg1_15
        refine g0 10 true 15 16 12 rfl rfl rfl rfl rfl rfl ?_
        refine g0 10 true 15 17 13 rfl rfl rfl rfl rfl rfl ?_
        refine g0 10 true 15 18 14 rfl rfl rfl rfl rfl rfl ?_
        refine s1 19 120 15 rfl rfl rfl rfl rfl rfl trivial ?_
        refine s1 4 128 16 rfl rfl rfl rfl rfl rfl trivial ?_
        refine e1 136 rfl ?_
        refine keep [4] rfl ?_
        refine W_ret ?_
        exact out1 4 (SV.b (shareB p t)) (π := []) (hout := []) Try.results31 rfl (by show SV.b _ = SV.b _; refine congrArg SV.b (Bool.eq_iff_iff.2 ?_); simp [shareB]; omega) rfl rfl trivial ⟨rfl, rfl⟩
    · skip
      try simp only [decide_eq_true_eq, decide_eq_false_iff_not, Bool.not_eq_true', Bool.not_eq_false', beq_iff_eq, bne_iff_ne, beq_eq_false_iff_ne, Bool.and_eq_true, Bool.or_eq_true, Bool.and_eq_false_iff, Bool.or_eq_false_iff, ge_iff_le, gt_iff_lt, Int.not_lt, Int.not_le, ne_eq, Decidable.not_not, bne_eq_false_iff_eq] at hg1_11
      refine g0 6 true 11 12 8 rfl rfl rfl rfl rfl rfl ?_
      refine g0 6 true 11 13 9 rfl rfl rfl rfl rfl rfl ?_
      refine s1 14 80 10 rfl rfl rfl rfl rfl rfl trivial ?_
      refine s1 15 88 11 rfl rfl rfl rfl rfl rfl trivial ?_
      refine g0 10 true 15 16 12 rfl rfl rfl rfl rfl rfl ?_
      refine g0 10 true 15 17 13 rfl rfl rfl rfl rfl rfl ?_
      refine g0 10 true 15 18 14 rfl rfl rfl rfl rfl rfl ?_
      refine s1 19 120 15 rfl rfl rfl rfl rfl rfl trivial ?_
      refine s1 4 128 16 rfl rfl rfl rfl rfl rfl trivial ?_
      refine e1 136 rfl ?_
      refine keep [4] rfl ?_
      refine W_ret ?_
      exact out1 4 (SV.b (shareB p t)) (π := []) (hout := []) Try.results31 rfl (by show SV.b _ = SV.b _; refine congrArg SV.b (Bool.eq_iff_iff.2 ?_); simp [shareB]; omega) rfl rfl trivial ⟨rfl, rfl⟩
  · skip
    try simp only [decide_eq_true_eq, decide_eq_false_iff_not, Bool.not_eq_true', Bool.not_eq_false', beq_iff_eq, bne_iff_ne, beq_eq_false_iff_ne, Bool.and_eq_true, Bool.or_eq_true, Bool.and_eq_false_iff, Bool.or_eq_false_iff, ge_iff_le, gt_iff_lt, Int.not_lt, Int.not_le, ne_eq, Decidable.not_not, bne_eq_false_iff_eq] at hg1_7
    refine g0 2 true 7 8 4 rfl rfl rfl rfl rfl rfl ?_
    refine g0 2 true 7 9 5 rfl rfl rfl rfl rfl rfl ?_
    refine s1 10 48 6 rfl rfl rfl rfl rfl rfl trivial ?_
    refine s1 11 56 7 rfl rfl rfl rfl rfl rfl trivial ?_
    refine g0 6 true 11 12 8 rfl rfl rfl rfl rfl rfl ?_
    refine g0 6 true 11 13 9 rfl rfl rfl rfl rfl rfl ?_
    refine s1 14 80 10 rfl rfl rfl rfl rfl rfl trivial ?_
    refine s1 15 88 11 rfl rfl rfl rfl rfl rfl trivial ?_
    refine g0 10 true 15 16 12 rfl rfl rfl rfl rfl rfl ?_
    refine g0 10 true 15 17 13 rfl rfl rfl rfl rfl rfl ?_
    refine g0 10 true 15 18 14 rfl rfl rfl rfl rfl rfl ?_
    refine s1 19 120 15 rfl rfl rfl rfl rfl rfl trivial ?_
    refine s1 4 128 16 rfl rfl rfl rfl rfl rfl trivial ?_
    refine e1 136 rfl ?_
    refine keep [4] rfl ?_
    refine W_ret ?_
    exact out1 4 (SV.b (shareB p t)) (π := []) (hout := []) Try.results31 rfl (by show SV.b _ = SV.b _; refine congrArg SV.b (Bool.eq_iff_iff.2 ?_); simp [shareB]; omega) rfl rfl trivial ⟨rfl, rfl⟩

theorem shareMay_any (p t : Int) : Spec Try.prog G0 33 [SV.i p, SV.i t] [] (fun r ho => r = SV.b (shareB p t) ∧ ho = []) := by
  refine start 20 0 Try.func33 rfl rfl rfl rfl ?_
  refine r1 ?_
  refine s1 4 0 1 rfl rfl rfl rfl rfl rfl trivial ?_
  refine e1 8 rfl ?_
  refine keep [0, 1] rfl ?_
  refine r1 ?_
  refine s1 5 8 1 rfl rfl rfl rfl rfl rfl trivial ?_
  refine s1 6 16 2 rfl rfl rfl rfl rfl rfl (by first | trivial | omega | (simp only [List.length_map, List.length_append, List.length_cons, List.length_nil] at *; omega)) ?_
  refine s1 7 24 3 rfl rfl rfl rfl rfl rfl trivial ?_
  refine ask 7 rfl (fun hg1_7 => ?_) (fun hg1_7 => ?_)
  · skip
    try simp only [decide_eq_true_eq, decide_eq_false_iff_not, Bool.not_eq_true', Bool.not_eq_false', beq_iff_eq, bne_iff_ne, beq_eq_false_iff_ne, Bool.and_eq_true, Bool.or_eq_true, Bool.and_eq_false_iff, Bool.or_eq_false_iff, ge_iff_le, gt_iff_lt, Int.not_lt, Int.not_le, ne_eq, Decidable.not_not, bne_eq_false_iff_eq] at hg1_7
    refine g1 2 true 7 8 4 rfl rfl rfl rfl rfl ?_
    refine s1 8 32 4 rfl rfl rfl rfl rfl rfl trivial ?_
    refine g1 2 true 7 9 5 rfl rfl rfl rfl rfl ?_
    refine s1 9 40 5 rfl rfl rfl rfl rfl rfl (by first | trivial | omega | (simp only [List.length_map, List.length_append, List.length_cons, List.length_nil] at *; omega)) ?_
    refine s1 10 48 6 rfl rfl rfl rfl rfl rfl trivial ?_
    refine s1 11 56 7 rfl rfl rfl rfl rfl rfl trivial ?_
    refine ask 11 rfl (fun hg1_11 => ?_) (fun hg1_11 => ?_)
    · skip
      try simp only [decide_eq_true_eq, decide_eq_false_iff_not, Bool.not_eq_true', Bool.not_eq_false', beq_iff_eq, bne_iff_ne, beq_eq_false_iff_ne, Bool.and_eq_true, Bool.or_eq_true, Bool.and_eq_false_iff, Bool.or_eq_false_iff, ge_iff_le, gt_iff_lt, Int.not_lt, Int.not_le, ne_eq, Decidable.not_not, bne_eq_false_iff_eq] at hg1_11
      refine g1 6 true 11 12 8 rfl rfl rfl rfl rfl ?_
      refine s1 12 64 8 rfl rfl rfl rfl rfl rfl trivial ?_
      refine g1 6 true 11 13 9 rfl rfl rfl rfl rfl ?_
      refine s1 13 72 9 rfl rfl rfl rfl rfl rfl (by first | trivial | omega | (simp only [List.length_map, List.length_append, List.length_cons, List.length_nil] at *; omega)) ?_
      refine s1 14 80 10 rfl rfl rfl rfl rfl rfl trivial ?_
      refine s1 15 88 11 rfl rfl rfl rfl rfl rfl trivial ?_
      refine ask 15 rfl (fun hg1_15 => ?_) (fun hg1_15 => ?_)
      · skip
        try simp only [decide_eq_true_eq, decide_eq_false_iff_not, Bool.not_eq_true', Bool.not_eq_false', beq_iff_eq, bne_iff_ne, beq_eq_false_iff_ne, Bool.and_eq_true, Bool.or_eq_true, Bool.and_eq_false_iff, Bool.or_eq_false_iff, ge_iff_le, gt_iff_lt, Int.not_lt, Int.not_le, ne_eq, Decidable.not_not, bne_eq_false_iff_eq] at hg1_15
        refine g1 10 true 15 16 12 rfl rfl rfl rfl rfl ?_
        refine s1 16 96 12 rfl rfl rfl rfl rfl rfl trivial ?_
        refine g1 10 true 15 17 13 rfl rfl rfl rfl rfl ?_
        refine s1 17 104 13 rfl rfl rfl rfl rfl rfl trivial ?_
        refine g1 10 true 15 18 14 rfl rfl rfl rfl rfl ?_
        refine s1 18 112 14 rfl rfl rfl rfl rfl rfl (by first | trivial | omega | (simp only [List.length_map, List.length_append, List.length_cons, List.length_nil] at *; omega)) ?_
        refine s1 19 120 15 rfl rfl rfl rfl rfl rfl trivial ?_
        refine s1 4 128 16 rfl rfl rfl rfl rfl rfl trivial ?_
        refine e1 136 rfl ?_
        refine keep [4] rfl ?_
        refine W_ret ?_
        exact out1 4 (SV.b (shareB p t)) (π := []) (hout := []) Try.results33 rfl (by show SV.b _ = SV.b _; refine congrArg SV.b (Bool.eq_iff_iff.2 ?_); simp [shareB]; omega) rfl rfl trivial ⟨rfl, rfl⟩
      · skip
        try simp only [decide_eq_true_eq, decide_eq_false_iff_not, Bool.not_eq_true', Bool.not_eq_false', beq_iff_eq, bne_iff_ne, beq_eq_false_iff_ne, Bool.and_eq_true, Bool.or_eq_true, Bool.and_eq_false_iff, Bool.or_eq_false_iff, ge_iff_le, gt_iff_lt, Int.not_lt, Int.not_le, ne_eq, Decidable.not_not, bne_eq_false_iff_eq] at hg1_15
        refine g0 10 true 15 16 12 rfl rfl rfl rfl rfl rfl ?_
        refine g0 10 true 15 17 13 rfl rfl rfl rfl rfl rfl ?_
        refine g0 10 true 15 18 14 rfl rfl rfl rfl rfl rfl ?_
        refine s1 19 120 15 rfl rfl rfl rfl rfl rfl trivial ?_
        refine s1 4 128 16 rfl rfl rfl rfl rfl rfl trivial ?_
        refine e1 136 rfl ?_
        refine keep [4] rfl ?_
        refine W_ret ?_
        exact out1 4 (SV.b (shareB p t)) (π := []) (hout := []) Try.results33 rfl (by show SV.b _ = SV.b _; refine congrArg SV.b (Bool.eq_iff_iff.2 ?_); simp [shareB]; omega) rfl rfl trivial ⟨rfl, rfl⟩
    · skip
      try simp only [decide_eq_true_eq, decide_eq_false_iff_not, Bool.not_eq_true', Bool.not_eq_false', beq_iff_eq, bne_iff_ne, beq_eq_false_iff_ne, Bool.and_eq_true, Bool.or_eq_true, Bool.and_eq_false_iff, Bool.or_eq_false_iff, ge_iff_le, gt_iff_lt, Int.not_lt, Int.not_le, ne_eq, Decidable.not_not, bne_eq_false_iff_eq] at hg1_11
      refine g0 6 true 11 12 8 rfl rfl rfl rfl rfl rfl ?_
      refine g0 6 true 11 13 9 rfl rfl rfl rfl rfl rfl ?_
      refine s1 14 80 10 rfl rfl rfl rfl rfl rfl trivial ?_
      refine s1 15 88 11 rfl rfl rfl rfl rfl rfl trivial ?_
      refine g0 10 true 15 16 12 rfl rfl rfl rfl rfl rfl ?_
      refine g0 10 true 15 17 13 rfl rfl rfl rfl rfl rfl ?_
      refine g0 10 true 15 18 14 rfl rfl rfl rfl rfl rfl ?_
      refine s1 19 120 15 rfl rfl rfl rfl rfl rfl trivial ?_
      refine s1 4 128 16 rfl rfl rfl rfl rfl rfl trivial ?_
      refine e1 136 rfl ?_
      refine keep [4] rfl ?_
      refine W_ret ?_
      exact out1 4 (SV.b (shareB p t)) (π := []) (hout := []) Try.results33 rfl (by show SV.b _ = SV.b _; refine congrArg SV.b (Bool.eq_iff_iff.2 ?_); simp [shareB]; omega) rfl rfl trivial ⟨rfl, rfl⟩
  · skip
    try simp only [decide_eq_true_eq, decide_eq_false_iff_not, Bool.not_eq_true', Bool.not_eq_false', beq_iff_eq, bne_iff_ne, beq_eq_false_iff_ne, Bool.and_eq_true, Bool.or_eq_true, Bool.and_eq_false_iff, Bool.or_eq_false_iff, ge_iff_le, gt_iff_lt, Int.not_lt, Int.not_le, ne_eq, Decidable.not_not, bne_eq_false_iff_eq] at hg1_7
    refine g0 2 true 7 8 4 rfl rfl rfl rfl rfl rfl ?_
    refine g0 2 true 7 9 5 rfl rfl rfl rfl rfl rfl ?_
    refine s1 10 48 6 rfl rfl rfl rfl rfl rfl trivial ?_
    refine s1 11 56 7 rfl rfl rfl rfl rfl rfl trivial ?_
    refine g0 6 true 11 12 8 rfl rfl rfl rfl rfl rfl ?_
    refine g0 6 true 11 13 9 rfl rfl rfl rfl rfl rfl ?_
    refine s1 14 80 10 rfl rfl rfl rfl rfl rfl trivial ?_
    refine s1 15 88 11 rfl rfl rfl rfl rfl rfl trivial ?_
    refine g0 10 true 15 16 12 rfl rfl rfl rfl rfl rfl ?_
    refine g0 10 true 15 17 13 rfl rfl rfl rfl rfl rfl ?_
    refine g0 10 true 15 18 14 rfl rfl rfl rfl rfl rfl ?_
    refine s1 19 120 15 rfl rfl rfl rfl rfl rfl trivial ?_
    refine s1 4 128 16 rfl rfl rfl rfl rfl rfl trivial ?_
    refine e1 136 rfl ?_
    refine keep [4] rfl ?_
    refine W_ret ?_
    exact out1 4 (SV.b (shareB p t)) (π := []) (hout := []) Try.results33 rfl (by show SV.b _ = SV.b _; refine congrArg SV.b (Bool.eq_iff_iff.2 ?_); simp [shareB]; omega) rfl rfl trivial ⟨rfl, rfl⟩

theorem guess_any (b c : List Int) (p t : Int) (hb : b.length ≤ 9223372036854775807) (hc : c.length ≤ 9223372036854775807) : Spec Try.prog G0 14 [intsV b, intsV c, SV.i p, SV.i t] [] (fun r ho => r = SV.tup [SV.i (guess b c p t).1, SV.i (guess b c p t).2] ∧ ho = []) := by
  refine start 72 0 Try.func14 rfl rfl rfl rfl ?_
  refine r1 ?_
  refine s1 8 0 1 rfl rfl rfl rfl rfl rfl trivial ?_
  refine s1 9 8 2 rfl rfl rfl rfl rfl rfl trivial ?_
  refine e1 16 rfl ?_
  refine keep [0, 1, 2, 3] rfl ?_
  refine W_seq ?_
  refine W_block ?_
  refine r1 ?_
  refine s1 17 16 1 rfl rfl rfl rfl rfl rfl trivial ?_
  refine c1 (bounded_any b hb) [] [] 18 24 2 rfl rfl rfl rfl rfl rfl rfl rfl Try.func30 rfl rfl rfl rfl trivial rfl rfl ?_
  refine s1 19 32 3 rfl rfl rfl rfl rfl rfl trivial ?_
  refine s1 20 40 4 rfl rfl rfl rfl rfl rfl trivial ?_
  refine ask 20 rfl (fun hg1_20 => ?_) (fun hg1_20 => ?_)
  · skip
    try simp only [decide_eq_true_eq, decide_eq_false_iff_not, Bool.not_eq_true', Bool.not_eq_false', beq_iff_eq, bne_iff_ne, beq_eq_false_iff_ne, Bool.and_eq_true, Bool.or_eq_true, Bool.and_eq_false_iff, Bool.or_eq_false_iff, ge_iff_le, gt_iff_lt, Int.not_lt, Int.not_le, ne_eq, Decidable.not_not, bne_eq_false_iff_eq] at hg1_20
    refine g0 3 false 20 21 5 rfl rfl rfl rfl rfl rfl ?_
    refine g0 3 false 20 22 6 rfl rfl rfl rfl rfl rfl ?_
    refine g0 3 false 20 23 7 rfl rfl rfl rfl rfl rfl ?_
    refine s1 24 72 8 rfl rfl rfl rfl rfl rfl trivial ?_
    refine s1 25 80 9 rfl rfl rfl rfl rfl rfl trivial ?_
    refine g0 8 false 25 26 10 rfl rfl rfl rfl rfl rfl ?_
    refine g0 8 false 25 27 11 rfl rfl rfl rfl rfl rfl ?_
    refine g0 8 false 25 28 12 rfl rfl rfl rfl rfl rfl ?_
    refine g0 8 false 25 29 13 rfl rfl rfl rfl rfl rfl ?_
    refine g0 8 false 25 30 14 rfl rfl rfl rfl rfl rfl ?_
    refine g0 8 false 25 31 15 rfl rfl rfl rfl rfl rfl ?_
    refine s1 32 136 16 rfl rfl rfl rfl rfl rfl trivial ?_
    refine s1 16 144 17 rfl rfl rfl rfl rfl rfl trivial ?_
    refine e1 152 rfl ?_
    refine keep [0, 1, 2, 3, 16] rfl ?_
    refine q1 rfl (fun hc1 => ?_) (fun hc1 => ?_)
    · skip
      try simp only [decide_eq_true_eq, decide_eq_false_iff_not, Bool.not_eq_true', Bool.not_eq_false', beq_iff_eq, bne_iff_ne, beq_eq_false_iff_ne, Bool.and_eq_true, Bool.or_eq_true, Bool.and_eq_false_iff, Bool.or_eq_false_iff, ge_iff_le, gt_iff_lt, Int.not_lt, Int.not_le, ne_eq, Decidable.not_not, bne_eq_false_iff_eq] at hc1
      refine r1 ?_
      refine s1 8 152 1 rfl rfl rfl rfl rfl rfl trivial ?_
      refine s1 9 160 2 rfl rfl rfl rfl rfl rfl trivial ?_
      refine e1 168 rfl ?_
      refine keep [8, 9] rfl ?_
      refine W_ret ?_
      refine br ?_
      refine tr ?_
      exact out2 8 9 (SV.i (guess b c p t).1) (SV.i (guess b c p t).2) (π := []) (hout := []) Try.results14 rfl rfl (by rw [guess_form (by simp [*]; try omega)]; rfl) (by rw [guess_form (by simp [*]; try omega)]; rfl) rfl rfl trivial ⟨rfl, rfl⟩
    · skip
      exact absurd hc1 (by decide)
  · skip
    try simp only [decide_eq_true_eq, decide_eq_false_iff_not, Bool.not_eq_true', Bool.not_eq_false', beq_iff_eq, bne_iff_ne, beq_eq_false_iff_ne, Bool.and_eq_true, Bool.or_eq_true, Bool.and_eq_false_iff, Bool.or_eq_false_iff, ge_iff_le, gt_iff_lt, Int.not_lt, Int.not_le, ne_eq, Decidable.not_not, bne_eq_false_iff_eq] at hg1_20
    refine g1 3 false 20 21 5 rfl rfl rfl rfl rfl ?_
    refine s1 21 48 5 rfl rfl rfl rfl rfl rfl trivial ?_
    refine g1 3 false 20 22 6 rfl rfl rfl rfl rfl ?_
    refine c1 (counted_any c hc) [] [] 22 56 6 rfl rfl rfl rfl rfl rfl rfl rfl Try.func27 rfl rfl rfl rfl trivial rfl rfl ?_
    refine g1 3 false 20 23 7 rfl rfl rfl rfl rfl ?_
    refine s1 23 64 7 rfl rfl rfl rfl rfl rfl trivial ?_
    refine s1 24 72 8 rfl rfl rfl rfl rfl rfl trivial ?_
    refine s1 25 80 9 rfl rfl rfl rfl rfl rfl trivial ?_
    refine ask 25 rfl (fun hg1_25 => ?_) (fun hg1_25 => ?_)
    · skip
      try simp only [decide_eq_true_eq, decide_eq_false_iff_not, Bool.not_eq_true', Bool.not_eq_false', beq_iff_eq, bne_iff_ne, beq_eq_false_iff_ne, Bool.and_eq_true, Bool.or_eq_true, Bool.and_eq_false_iff, Bool.or_eq_false_iff, ge_iff_le, gt_iff_lt, Int.not_lt, Int.not_le, ne_eq, Decidable.not_not, bne_eq_false_iff_eq] at hg1_25
      refine g0 8 false 25 26 10 rfl rfl rfl rfl rfl rfl ?_
      refine g0 8 false 25 27 11 rfl rfl rfl rfl rfl rfl ?_
      refine g0 8 false 25 28 12 rfl rfl rfl rfl rfl rfl ?_
      refine g0 8 false 25 29 13 rfl rfl rfl rfl rfl rfl ?_
      refine g0 8 false 25 30 14 rfl rfl rfl rfl rfl rfl ?_
      refine g0 8 false 25 31 15 rfl rfl rfl rfl rfl rfl ?_
      refine s1 32 136 16 rfl rfl rfl rfl rfl rfl trivial ?_
      refine s1 16 144 17 rfl rfl rfl rfl rfl rfl trivial ?_
      refine e1 152 rfl ?_
      refine keep [0, 1, 2, 3, 16] rfl ?_
      refine q1 rfl (fun hc1 => ?_) (fun hc1 => ?_)
      · skip
        try simp only [decide_eq_true_eq, decide_eq_false_iff_not, Bool.not_eq_true', Bool.not_eq_false', beq_iff_eq, bne_iff_ne, beq_eq_false_iff_ne, Bool.and_eq_true, Bool.or_eq_true, Bool.and_eq_false_iff, Bool.or_eq_false_iff, ge_iff_le, gt_iff_lt, Int.not_lt, Int.not_le, ne_eq, Decidable.not_not, bne_eq_false_iff_eq] at hc1
        refine r1 ?_
        refine s1 8 152 1 rfl rfl rfl rfl rfl rfl trivial ?_
        refine s1 9 160 2 rfl rfl rfl rfl rfl rfl trivial ?_
        refine e1 168 rfl ?_
        refine keep [8, 9] rfl ?_
        refine W_ret ?_
        refine br ?_
        refine tr ?_
        exact out2 8 9 (SV.i (guess b c p t).1) (SV.i (guess b c p t).2) (π := []) (hout := []) Try.results14 rfl rfl (by rw [guess_form (by simp [*]; try omega)]; rfl) (by rw [guess_form (by simp [*]; try omega)]; rfl) rfl rfl trivial ⟨rfl, rfl⟩
      · skip
        exact absurd hc1 (by decide)
    · skip
      try simp only [decide_eq_true_eq, decide_eq_false_iff_not, Bool.not_eq_true', Bool.not_eq_false', beq_iff_eq, bne_iff_ne, beq_eq_false_iff_ne, Bool.and_eq_true, Bool.or_eq_true, Bool.and_eq_false_iff, Bool.or_eq_false_iff, ge_iff_le, gt_iff_lt, Int.not_lt, Int.not_le, ne_eq, Decidable.not_not, bne_eq_false_iff_eq] at hg1_25
      refine g1 8 false 25 26 10 rfl rfl rfl rfl rfl ?_
      refine s1 26 88 10 rfl rfl rfl rfl rfl rfl trivial ?_
      refine g1 8 false 25 27 11 rfl rfl rfl rfl rfl ?_
      refine s1 27 96 11 rfl rfl rfl rfl rfl rfl (by first | trivial | omega | (simp only [List.length_map, List.length_append, List.length_cons, List.length_nil] at *; omega)) ?_
      refine g1 8 false 25 28 12 rfl rfl rfl rfl rfl ?_
      refine s1 28 104 12 rfl rfl rfl rfl rfl rfl trivial ?_
      refine g1 8 false 25 29 13 rfl rfl rfl rfl rfl ?_
      refine s1 29 112 13 rfl rfl rfl rfl rfl rfl (by first | trivial | omega | (simp only [List.length_map, List.length_append, List.length_cons, List.length_nil] at *; omega)) ?_
      refine g1 8 false 25 30 14 rfl rfl rfl rfl rfl ?_
      refine sA 30 120 14 rfl rfl rfl rfl rfl rfl rfl rfl rfl (by have := bnd_len hg1_20; unfold inRange; omega) ?_
      refine g1 8 false 25 31 15 rfl rfl rfl rfl rfl ?_
      refine s1 31 128 15 rfl rfl rfl rfl rfl rfl (by first | trivial | omega | (simp only [List.length_map, List.length_append, List.length_cons, List.length_nil] at *; omega)) ?_
      refine s1 32 136 16 rfl rfl rfl rfl rfl rfl trivial ?_
      refine s1 16 144 17 rfl rfl rfl rfl rfl rfl trivial ?_
      refine e1 152 rfl ?_
      refine keep [0, 1, 2, 3, 16] rfl ?_
      refine q1 rfl (fun hc1 => ?_) (fun hc1 => ?_)
      · skip
        try simp only [decide_eq_true_eq, decide_eq_false_iff_not, Bool.not_eq_true', Bool.not_eq_false', beq_iff_eq, bne_iff_ne, beq_eq_false_iff_ne, Bool.and_eq_true, Bool.or_eq_true, Bool.and_eq_false_iff, Bool.or_eq_false_iff, ge_iff_le, gt_iff_lt, Int.not_lt, Int.not_le, ne_eq, Decidable.not_not, bne_eq_false_iff_eq] at hc1
        refine r1 ?_
        refine s1 8 152 1 rfl rfl rfl rfl rfl rfl trivial ?_
        refine s1 9 160 2 rfl rfl rfl rfl rfl rfl trivial ?_
        refine e1 168 rfl ?_
        refine keep [8, 9] rfl ?_
        refine W_ret ?_
        refine br ?_
        refine tr ?_
        exact out2 8 9 (SV.i (guess b c p t).1) (SV.i (guess b c p t).2) (π := []) (hout := []) Try.results14 rfl rfl (by rw [guess_form (by simp [*]; try omega)]; rfl) (by rw [guess_form (by simp [*]; try omega)]; rfl) rfl rfl trivial ⟨rfl, rfl⟩
      · skip
        try simp only [decide_eq_true_eq, decide_eq_false_iff_not, Bool.not_eq_true', Bool.not_eq_false', beq_iff_eq, bne_iff_ne, beq_eq_false_iff_ne, Bool.and_eq_true, Bool.or_eq_true, Bool.and_eq_false_iff, Bool.or_eq_false_iff, ge_iff_le, gt_iff_lt, Int.not_lt, Int.not_le, ne_eq, Decidable.not_not, bne_eq_false_iff_eq] at hc1
        refine r1 ?_
        refine s1 34 152 1 rfl rfl rfl rfl rfl rfl trivial ?_
        refine s1 35 160 2 rfl rfl rfl rfl rfl rfl trivial ?_
        refine c1 (share_any p t) [] [] 36 168 3 rfl rfl rfl rfl rfl rfl rfl rfl Try.func31 rfl rfl rfl rfl trivial rfl rfl ?_
        refine s1 37 176 4 rfl rfl rfl rfl rfl rfl trivial ?_
        refine s1 33 184 5 rfl rfl rfl rfl rfl rfl trivial ?_
        refine e1 192 rfl ?_
        refine keep [0, 1, 2, 3, 33] rfl ?_
        refine q1 rfl (fun hc3 => ?_) (fun hc3 => ?_)
        · skip
          try simp only [decide_eq_true_eq, decide_eq_false_iff_not, Bool.not_eq_true', Bool.not_eq_false', beq_iff_eq, bne_iff_ne, beq_eq_false_iff_ne, Bool.and_eq_true, Bool.or_eq_true, Bool.and_eq_false_iff, Bool.or_eq_false_iff, ge_iff_le, gt_iff_lt, Int.not_lt, Int.not_le, ne_eq, Decidable.not_not, bne_eq_false_iff_eq] at hc3
          refine r1 ?_
          refine s1 8 192 1 rfl rfl rfl rfl rfl rfl trivial ?_
          refine s1 9 200 2 rfl rfl rfl rfl rfl rfl trivial ?_
          refine e1 208 rfl ?_
          refine keep [8, 9] rfl ?_
          refine W_ret ?_
          refine br ?_
          refine tr ?_
          exact out2 8 9 (SV.i (guess b c p t).1) (SV.i (guess b c p t).2) (π := []) (hout := []) Try.results14 rfl rfl (by rw [guess_range hg1_20 hg1_25 (by omega) hc3]; rfl) (by rw [guess_range hg1_20 hg1_25 (by omega) hc3]; rfl) rfl rfl trivial ⟨rfl, rfl⟩
        · skip
          try simp only [decide_eq_true_eq, decide_eq_false_iff_not, Bool.not_eq_true', Bool.not_eq_false', beq_iff_eq, bne_iff_ne, beq_eq_false_iff_ne, Bool.and_eq_true, Bool.or_eq_true, Bool.and_eq_false_iff, Bool.or_eq_false_iff, ge_iff_le, gt_iff_lt, Int.not_lt, Int.not_le, ne_eq, Decidable.not_not, bne_eq_false_iff_eq] at hc3
          refine W_skip ?_
          refine bn ?_
          refine tn ?_
          refine r1 ?_
          refine s1 10 192 1 rfl rfl rfl rfl rfl rfl trivial ?_
          refine e1 200 rfl ?_
          refine keep [0, 1, 2, 3, 10] rfl ?_
          refine W_seq ?_
          refine r1 ?_
          refine s1 38 200 1 rfl rfl rfl rfl rfl rfl trivial ?_
          refine s1 39 208 2 rfl rfl rfl rfl rfl rfl (by first | trivial | omega | (simp only [List.length_map, List.length_append, List.length_cons, List.length_nil] at *; omega)) ?_
          refine s1 40 216 3 rfl rfl rfl rfl rfl rfl trivial ?_
          refine e1 224 rfl ?_
          refine keep [0, 1, 2, 3, 10, 38, 39, 40] rfl ?_
          refine W_block ?_
          have hB : bndB b = true := by simpa using hg1_20
          have hC : cntB c = true := by simpa using hg1_25
          have hL : c.length = b.length + 1 := by omega
          have hS : shareB p t = true := by simpa using hc3
          have hS4 := share_of hS
          have hC2 := cnt_len hC
          refine loop (α := Nat) 0 (fun n => [(0, intsV b), (1, intsV c), (2, SV.i p), (3, SV.i t), (10, SV.i (sumTo c n)), (38, intsV c), (39, SV.i c.length), (40, SV.i n)]) (fun n => []) (fun n => n ≤ c.length) (fun n => c.length - n) (0) [] (fun _ => rfl) (Nat.zero_le _) rfl ⟨rfl, rfl, rfl, rfl, rfl, rfl, rfl, rfl, trivial⟩ trivial (fun n hx => ?_)
          refine r1 ?_
          refine s1 41 0 1 rfl rfl rfl rfl rfl rfl (by first | trivial | omega | (simp only [List.length_map, List.length_append, List.length_cons, List.length_nil] at *; omega)) ?_
          refine e1 8 rfl ?_
          refine keep [0, 1, 2, 3, 10, 38, 39, 40, 41] rfl ?_
          refine W_seq ?_
          refine q1 rfl (fun hc7 => ?_) (fun hc7 => ?_)
          · skip
            try simp only [decide_eq_true_eq, decide_eq_false_iff_not, Bool.not_eq_true', Bool.not_eq_false', beq_iff_eq, bne_iff_ne, beq_eq_false_iff_ne, Bool.and_eq_true, Bool.or_eq_true, Bool.and_eq_false_iff, Bool.or_eq_false_iff, ge_iff_le, gt_iff_lt, Int.not_lt, Int.not_le, ne_eq, Decidable.not_not, bne_eq_false_iff_eq] at hc7
            refine W_skip ?_
            refine tn ?_
            refine W_seq ?_
            refine W_block ?_
            refine r1 ?_
            refine s1 42 8 1 rfl rfl rfl rfl rfl rfl (by first | trivial | omega | (simp only [List.length_map, List.length_append, List.length_cons, List.length_nil] at *; omega)) ?_
            refine s1 43 16 2 rfl rfl rfl rfl rfl rfl (by first | trivial | omega | (simp only [List.length_map, List.length_append, List.length_cons, List.length_nil] at *; omega)) ?_
            refine s1 12 24 3 rfl rfl rfl rfl rfl rfl trivial ?_
            refine e1 32 rfl ?_
            refine keep [0, 1, 2, 3, 10, 12, 38, 39, 40] rfl ?_
            refine r0 ?_
            refine s1 44 32 1 rfl rfl rfl rfl rfl rfl trivial ?_
            refine s1 45 40 2 rfl rfl rfl rfl rfl rfl trivial ?_
            refine sA 46 48 3 rfl rfl rfl rfl rfl rfl rfl rfl rfl (by have := sum_le hC n (by omega); have := cnt_at hC (show n < c.length by omega); have := cnt_len hC; unfold inRange; simp only [Int.toNat_natCast] at *; omega) ?_
            refine s1 10 56 4 rfl rfl rfl rfl rfl rfl trivial ?_
            refine e1 64 rfl ?_
            refine bn ?_
            refine tn ?_
            refine r0 ?_
            refine sA 47 64 1 rfl rfl rfl rfl rfl rfl rfl rfl rfl (by unfold inRange; omega) ?_
            refine s1 40 72 2 rfl rfl rfl rfl rfl rfl trivial ?_
            refine e1 80 rfl ?_
            refine tn ?_
            exact again (n + 1) [] (by omega) (by omega) rfl ⟨rfl, rfl, rfl, rfl, rfl, rfl, rfl, rfl, trivial⟩ trivial
          · skip
            try simp only [decide_eq_true_eq, decide_eq_false_iff_not, Bool.not_eq_true', Bool.not_eq_false', beq_iff_eq, bne_iff_ne, beq_eq_false_iff_ne, Bool.and_eq_true, Bool.or_eq_true, Bool.and_eq_false_iff, Bool.or_eq_false_iff, ge_iff_le, gt_iff_lt, Int.not_lt, Int.not_le, ne_eq, Decidable.not_not, bne_eq_false_iff_eq] at hc7
            refine W_exit ?_
            refine tx ?_
            refine tx ?_
            refine bx ?_
            refine tn ?_
            refine W_seq ?_
            obtain rfl : n = c.length := (by omega)
            refine r1 ?_
            refine s1 48 8 1 rfl rfl rfl rfl rfl rfl trivial ?_
            refine s1 49 16 2 rfl rfl rfl rfl rfl rfl (by first | trivial | omega | (simp only [List.length_map, List.length_append, List.length_cons, List.length_nil] at *; omega)) ?_
            refine e1 24 rfl ?_
            refine keep [0, 1, 2, 3, 10, 49] rfl ?_
            refine q1 rfl (fun hc11 => ?_) (fun hc11 => ?_)
            · skip
              try simp only [decide_eq_true_eq, decide_eq_false_iff_not, Bool.not_eq_true', Bool.not_eq_false', beq_iff_eq, bne_iff_ne, beq_eq_false_iff_ne, Bool.and_eq_true, Bool.or_eq_true, Bool.and_eq_false_iff, Bool.or_eq_false_iff, ge_iff_le, gt_iff_lt, Int.not_lt, Int.not_le, ne_eq, Decidable.not_not, bne_eq_false_iff_eq] at hc11
              refine r1 ?_
              refine s1 8 24 1 rfl rfl rfl rfl rfl rfl trivial ?_
              refine s1 9 32 2 rfl rfl rfl rfl rfl rfl trivial ?_
              refine e1 40 rfl ?_
              refine keep [8, 9] rfl ?_
              refine W_ret ?_
              refine tr ?_
              exact out2 8 9 (SV.i (guess b c p t).1) (SV.i (guess b c p t).2) (π := []) (hout := []) Try.results14 rfl rfl (by rw [guess_zero hB hC hL hS hc11]; rfl) (by rw [guess_zero hB hC hL hS hc11]; rfl) rfl rfl trivial ⟨rfl, rfl⟩
            · skip
              try simp only [decide_eq_true_eq, decide_eq_false_iff_not, Bool.not_eq_true', Bool.not_eq_false', beq_iff_eq, bne_iff_ne, beq_eq_false_iff_ne, Bool.and_eq_true, Bool.or_eq_true, Bool.and_eq_false_iff, Bool.or_eq_false_iff, ge_iff_le, gt_iff_lt, Int.not_lt, Int.not_le, ne_eq, Decidable.not_not, bne_eq_false_iff_eq] at hc11
              refine W_skip ?_
              refine tn ?_
              refine r1 ?_
              refine s1 13 24 1 rfl rfl rfl rfl rfl rfl trivial ?_
              refine e1 32 rfl ?_
              refine keep [0, 1, 2, 3, 10, 13] rfl ?_
              refine W_seq ?_
              refine r1 ?_
              refine s1 50 32 1 rfl rfl rfl rfl rfl rfl trivial ?_
              refine s1 51 40 2 rfl rfl rfl rfl rfl rfl (by first | trivial | omega | (simp only [List.length_map, List.length_append, List.length_cons, List.length_nil] at *; omega)) ?_
              refine s1 52 48 3 rfl rfl rfl rfl rfl rfl trivial ?_
              refine e1 56 rfl ?_
              refine keep [1, 2, 3, 10, 13, 50, 51, 52] rfl ?_
              refine W_block ?_
              refine loop (α := Nat) 0 (fun n => [(1, intsV c), (2, SV.i p), (3, SV.i t), (10, SV.i (sumTo c c.length)), (13, SV.i (sumTo c n)), (50, intsV b), (51, SV.i b.length), (52, SV.i n)]) (fun n => []) (fun n => n ≤ b.length ∧ ∀ j, j < n → sumTo c (j + 1) * t < p * sumTo c c.length) (fun n => b.length - n) (0) [] (fun _ => rfl) ⟨Nat.zero_le _, fun j hj => by omega⟩ rfl ⟨rfl, rfl, rfl, rfl, rfl, rfl, rfl, rfl, trivial⟩ trivial (fun n hx => ?_)
              obtain ⟨hn, hno⟩ := hx
              refine r1 ?_
              refine s1 53 0 1 rfl rfl rfl rfl rfl rfl (by first | trivial | omega | (simp only [List.length_map, List.length_append, List.length_cons, List.length_nil] at *; omega)) ?_
              refine e1 8 rfl ?_
              refine keep [1, 2, 3, 10, 13, 50, 51, 52, 53] rfl ?_
              refine W_seq ?_
              refine q1 rfl (fun hc15 => ?_) (fun hc15 => ?_)
              · skip
                try simp only [decide_eq_true_eq, decide_eq_false_iff_not, Bool.not_eq_true', Bool.not_eq_false', beq_iff_eq, bne_iff_ne, beq_eq_false_iff_ne, Bool.and_eq_true, Bool.or_eq_true, Bool.and_eq_false_iff, Bool.or_eq_false_iff, ge_iff_le, gt_iff_lt, Int.not_lt, Int.not_le, ne_eq, Decidable.not_not, bne_eq_false_iff_eq] at hc15
                refine W_skip ?_
                refine tn ?_
                refine W_seq ?_
                refine W_block ?_
                refine r1 ?_
                refine s1 54 8 1 rfl rfl rfl rfl rfl rfl trivial ?_
                refine s1 55 16 2 rfl rfl rfl rfl rfl rfl (by first | trivial | omega | (simp only [List.length_map, List.length_append, List.length_cons, List.length_nil] at *; omega)) ?_
                refine s1 56 24 3 rfl rfl rfl rfl rfl rfl (by first | trivial | omega | (simp only [List.length_map, List.length_append, List.length_cons, List.length_nil] at *; omega)) ?_
                refine s1 14 32 4 rfl rfl rfl rfl rfl rfl trivial ?_
                refine s1 15 40 5 rfl rfl rfl rfl rfl rfl trivial ?_
                refine e1 48 rfl ?_
                refine keep [1, 2, 3, 10, 13, 14, 15, 50, 51, 52] rfl ?_
                refine r1 ?_
                refine s1 57 48 1 rfl rfl rfl rfl rfl rfl trivial ?_
                refine s1 58 56 2 rfl rfl rfl rfl rfl rfl trivial ?_
                refine s1 59 64 3 rfl rfl rfl rfl rfl rfl trivial ?_
                refine s1 60 72 4 rfl rfl rfl rfl rfl rfl (by first | trivial | omega | (simp only [List.length_map, List.length_append, List.length_cons, List.length_nil] at *; omega)) ?_
                refine s1 61 80 5 rfl rfl rfl rfl rfl rfl (by first | trivial | omega | (simp only [List.length_map, List.length_append, List.length_cons, List.length_nil] at *; omega)) ?_
                refine sA 62 88 6 rfl rfl rfl rfl rfl rfl rfl rfl rfl (by have := sum_le hC n (by omega); have := cnt_at hC (show n < c.length by omega); have := cnt_len hC; unfold inRange; simp only [Int.toNat_natCast] at *; omega) ?_
                refine s1 13 96 7 rfl rfl rfl rfl rfl rfl trivial ?_
                refine e1 104 rfl ?_
                refine keep [1, 2, 3, 10, 13, 15, 50, 51, 52] rfl ?_
                refine r1 ?_
                refine s1 63 104 1 rfl rfl rfl rfl rfl rfl trivial ?_
                refine s1 64 112 2 rfl rfl rfl rfl rfl rfl trivial ?_
                refine sA 65 120 3 rfl rfl rfl rfl rfl rfl rfl rfl rfl (by have := sum_in hC (n := n + 1) (by omega) (t := t) (by omega) (by omega); exact this) ?_
                refine s1 66 128 4 rfl rfl rfl rfl rfl rfl trivial ?_
                refine s1 67 136 5 rfl rfl rfl rfl rfl rfl trivial ?_
                refine sA 68 144 6 rfl rfl rfl rfl rfl rfl rfl rfl rfl (by have := sum_in hC (n := c.length) (Nat.le_refl _) (t := p) (by omega) (by omega); rw [Int.mul_comm] at this; exact this) ?_
                refine s1 69 152 7 rfl rfl rfl rfl rfl rfl (by first | trivial | omega | (simp only [List.length_map, List.length_append, List.length_cons, List.length_nil] at *; omega)) ?_
                refine e1 160 rfl ?_
                refine keep [1, 2, 3, 10, 13, 15, 50, 51, 52, 69] rfl ?_
                refine q1 rfl (fun hc18 => ?_) (fun hc18 => ?_)
                · skip
                  try simp only [decide_eq_true_eq, decide_eq_false_iff_not, Bool.not_eq_true', Bool.not_eq_false', beq_iff_eq, bne_iff_ne, beq_eq_false_iff_ne, Bool.and_eq_true, Bool.or_eq_true, Bool.and_eq_false_iff, Bool.or_eq_false_iff, ge_iff_le, gt_iff_lt, Int.not_lt, Int.not_le, ne_eq, Decidable.not_not, bne_eq_false_iff_eq] at hc18
                  refine r1 ?_
                  refine s1 70 160 1 rfl rfl rfl rfl rfl rfl trivial ?_
                  refine s1 8 168 2 rfl rfl rfl rfl rfl rfl trivial ?_
                  refine s1 9 176 3 rfl rfl rfl rfl rfl rfl trivial ?_
                  refine e1 184 rfl ?_
                  refine keep [8, 9] rfl ?_
                  refine W_ret ?_
                  refine br ?_
                  refine tr ?_
                  refine tr ?_
                  refine br ?_
                  refine tr ?_
                  exact out2 8 9 (SV.i (guess b c p t).1) (SV.i (guess b c p t).2) (π := []) (hout := []) Try.results14 rfl rfl (by rw [guess_at hB hC hL hS hc11 (by omega) hc18 hno]; rfl) (by rw [guess_at hB hC hL hS hc11 (by omega) hc18 hno]; rfl) rfl rfl trivial ⟨rfl, rfl⟩
                · skip
                  try simp only [decide_eq_true_eq, decide_eq_false_iff_not, Bool.not_eq_true', Bool.not_eq_false', beq_iff_eq, bne_iff_ne, beq_eq_false_iff_ne, Bool.and_eq_true, Bool.or_eq_true, Bool.and_eq_false_iff, Bool.or_eq_false_iff, ge_iff_le, gt_iff_lt, Int.not_lt, Int.not_le, ne_eq, Decidable.not_not, bne_eq_false_iff_eq] at hc18
                  refine W_skip ?_
                  refine bn ?_
                  refine tn ?_
                  refine r0 ?_
                  refine sA 71 160 1 rfl rfl rfl rfl rfl rfl rfl rfl rfl (by unfold inRange; omega) ?_
                  refine s1 52 168 2 rfl rfl rfl rfl rfl rfl trivial ?_
                  refine e1 176 rfl ?_
                  refine tn ?_
                  exact again (n + 1) [] ⟨by omega, fun j hj => by by_cases e : j = n; (subst e; exact hc18); exact hno j (by omega)⟩ (by omega) rfl ⟨rfl, rfl, rfl, rfl, rfl, rfl, rfl, rfl, trivial⟩ trivial
              · skip
                try simp only [decide_eq_true_eq, decide_eq_false_iff_not, Bool.not_eq_true', Bool.not_eq_false', beq_iff_eq, bne_iff_ne, beq_eq_false_iff_ne, Bool.and_eq_true, Bool.or_eq_true, Bool.and_eq_false_iff, Bool.or_eq_false_iff, ge_iff_le, gt_iff_lt, Int.not_lt, Int.not_le, ne_eq, Decidable.not_not, bne_eq_false_iff_eq] at hc15
                refine W_exit ?_
                refine tx ?_
                refine tx ?_
                refine bx ?_
                refine tn ?_
                refine r1 ?_
                refine s1 8 8 1 rfl rfl rfl rfl rfl rfl trivial ?_
                refine s1 9 16 2 rfl rfl rfl rfl rfl rfl trivial ?_
                refine e1 24 rfl ?_
                refine keep [8, 9] rfl ?_
                refine W_ret ?_
                exact out2 8 9 (SV.i (guess b c p t).1) (SV.i (guess b c p t).2) (π := []) (hout := []) Try.results14 rfl rfl (by rw [guess_none hB hC hL hS hc11 (fun j hj => hno j (by omega))]; rfl) (by rw [guess_none hB hC hL hS hc11 (fun j hj => hno j (by omega))]; rfl) rfl rfl trivial ⟨rfl, rfl⟩

theorem upTo_any (c : List Int) (hc : c.length ≤ 9223372036854775807) (hC : cntB c = true) (n : Nat) (hn : n ≤ c.length) : Spec Try.prog G0 34 [SV.i n, .ptr 0 0 0] [.cells 24 1 [intsV c]] (fun r ho => r = SV.i (sumTo c n) ∧ ho = [some (.cells 24 1 [intsV c])]) := by
  refine start 20 1 Try.func34 rfl rfl rfl rfl ?_
  refine r1 ?_
  refine s1 3 1 1 rfl rfl rfl rfl rfl rfl trivial ?_
  refine e1 9 rfl ?_
  refine keep [0, 1] rfl ?_
  refine r1 ?_
  refine s1 4 9 1 rfl rfl rfl rfl rfl rfl trivial ?_
  refine e1 17 rfl ?_
  refine keep [0, 1, 4] rfl ?_
  refine W_seq ?_
  refine r1 ?_
  refine s1 7 17 1 rfl rfl rfl rfl rfl rfl (by first | trivial | omega | (simp only [List.length_map, List.length_append, List.length_cons, List.length_nil] at *; omega)) ?_
  refine s1 8 25 2 rfl rfl rfl rfl rfl rfl trivial ?_
  refine s1as (.d (.vec 1 n (intsF c))) 9 33 3 rfl rfl rfl rfl rfl rfl ⟨by omega, by omega, by omega⟩ rfl ?_
  refine s1 10 41 4 rfl rfl rfl rfl rfl rfl (by first | trivial | omega | (simp only [List.length_map, List.length_append, List.length_cons, List.length_nil] at *; omega)) ?_
  refine s1 11 49 5 rfl rfl rfl rfl rfl rfl trivial ?_
  refine e1 57 rfl ?_
  refine keep [4, 9, 10, 11] rfl ?_
  refine W_block ?_
  refine loop (α := Nat) 1 (fun k => [(4, SV.i (sumTo c k)), (9, .d (.vec 1 n (intsF c))), (10, SV.i n), (11, SV.i k)]) (fun k => [some (.cells 24 1 [intsV c])]) (fun k => k ≤ n) (fun k => n - k) (0) [0] (fun _ => rfl) (Nat.zero_le _) rfl ⟨rfl, rfl, rfl, rfl, trivial⟩ ⟨rfl, trivial⟩ (fun k hx => ?_)
  refine r1 ?_
  refine s1 12 1 1 rfl rfl rfl rfl rfl rfl (by first | trivial | omega | (simp only [List.length_map, List.length_append, List.length_cons, List.length_nil] at *; omega)) ?_
  refine e1 9 rfl ?_
  refine keep [4, 9, 10, 11, 12] rfl ?_
  refine W_seq ?_
  refine q1 rfl (fun hc3 => ?_) (fun hc3 => ?_)
  · skip
    try simp only [decide_eq_true_eq, decide_eq_false_iff_not, Bool.not_eq_true', Bool.not_eq_false', beq_iff_eq, bne_iff_ne, beq_eq_false_iff_ne, Bool.and_eq_true, Bool.or_eq_true, Bool.and_eq_false_iff, Bool.or_eq_false_iff, ge_iff_le, gt_iff_lt, Int.not_lt, Int.not_le, ne_eq, Decidable.not_not, bne_eq_false_iff_eq] at hc3
    refine W_skip ?_
    refine tn ?_
    refine W_seq ?_
    refine W_block ?_
    refine r1 ?_
    refine s1 13 9 1 rfl rfl rfl rfl rfl rfl (by first | trivial | omega | (simp only [List.length_map, List.length_append, List.length_cons, List.length_nil] at *; omega)) ?_
    refine s1 14 17 2 rfl rfl rfl rfl rfl rfl (by first | trivial | omega | (simp only [List.length_map, List.length_append, List.length_cons, List.length_nil] at *; omega)) ?_
    refine s1 6 25 3 rfl rfl rfl rfl rfl rfl trivial ?_
    refine e1 33 rfl ?_
    refine keep [4, 6, 9, 10, 11] rfl ?_
    refine r0 ?_
    refine s1 15 33 1 rfl rfl rfl rfl rfl rfl trivial ?_
    refine s1 16 41 2 rfl rfl rfl rfl rfl rfl trivial ?_
    refine sA 17 49 3 rfl rfl rfl rfl rfl rfl rfl rfl rfl (by have := sum_le hC k (by omega); have := cnt_at hC (show k < c.length by omega); have := cnt_len hC; unfold inRange; simp only [Int.toNat_natCast] at *; omega) ?_
    refine s1 4 57 4 rfl rfl rfl rfl rfl rfl trivial ?_
    refine e1 65 rfl ?_
    refine bn ?_
    refine tn ?_
    refine r0 ?_
    refine sA 18 65 1 rfl rfl rfl rfl rfl rfl rfl rfl rfl (by unfold inRange; omega) ?_
    refine s1 11 73 2 rfl rfl rfl rfl rfl rfl trivial ?_
    refine e1 81 rfl ?_
    refine tn ?_
    exact again (k + 1) [0] (by omega) (by omega) rfl ⟨rfl, rfl, rfl, rfl, trivial⟩ ⟨rfl, trivial⟩
  · skip
    try simp only [decide_eq_true_eq, decide_eq_false_iff_not, Bool.not_eq_true', Bool.not_eq_false', beq_iff_eq, bne_iff_ne, beq_eq_false_iff_ne, Bool.and_eq_true, Bool.or_eq_true, Bool.and_eq_false_iff, Bool.or_eq_false_iff, ge_iff_le, gt_iff_lt, Int.not_lt, Int.not_le, ne_eq, Decidable.not_not, bne_eq_false_iff_eq] at hc3
    refine W_exit ?_
    refine tx ?_
    refine tx ?_
    refine bx ?_
    refine tn ?_
    obtain rfl : k = n := (by omega)
    refine r1 ?_
    refine s1 19 9 1 rfl rfl rfl rfl rfl rfl trivial ?_
    refine s1 3 17 2 rfl rfl rfl rfl rfl rfl trivial ?_
    refine e1 25 rfl ?_
    refine keep [3] rfl ?_
    refine W_ret ?_
    exact out1 3 (SV.i (sumTo c k)) (π := [0]) (hout := [some (.cells 24 1 [intsV c])]) Try.results34 rfl rfl rfl rfl ⟨rfl, trivial⟩ ⟨rfl, rfl⟩

theorem refGuess_any (b c : List Int) (p t : Int) (hb : b.length ≤ 9223372036854775807) (hc : c.length ≤ 9223372036854775807) : Spec Try.prog G0 15 [intsV b, intsV c, SV.i p, SV.i t] [] (fun r ho => r = SV.tup [SV.i (guess b c p t).1, SV.i (guess b c p t).2] ∧ ho = []) := by
  refine start 60 0 Try.func15 rfl rfl rfl rfl ?_
  refine r1 ?_
  refine s1 5 0 1 rfl rfl rfl rfl rfl rfl trivial ?_
  refine s1 8 8 2 rfl rfl rfl rfl rfl rfl trivial ?_
  refine s1 9 16 3 rfl rfl rfl rfl rfl rfl trivial ?_
  refine e1 24 rfl ?_
  refine keep [0, 2, 3, 5] rfl ?_
  refine W_seq ?_
  refine r1 ?_
  refine s1 13 24 1 rfl rfl rfl rfl rfl rfl trivial ?_
  refine c1 (boundsMay_any b hb) [] [] 14 32 2 rfl rfl rfl rfl rfl rfl rfl rfl Try.func32 rfl rfl rfl rfl trivial rfl rfl ?_
  refine s1 15 40 3 rfl rfl rfl rfl rfl rfl trivial ?_
  refine s1 16 48 4 rfl rfl rfl rfl rfl rfl trivial ?_
  refine ask 16 rfl (fun hg1_16 => ?_) (fun hg1_16 => ?_)
  · skip
    try simp only [decide_eq_true_eq, decide_eq_false_iff_not, Bool.not_eq_true', Bool.not_eq_false', beq_iff_eq, bne_iff_ne, beq_eq_false_iff_ne, Bool.and_eq_true, Bool.or_eq_true, Bool.and_eq_false_iff, Bool.or_eq_false_iff, ge_iff_le, gt_iff_lt, Int.not_lt, Int.not_le, ne_eq, Decidable.not_not, bne_eq_false_iff_eq] at hg1_16
    refine g0 3 false 16 17 5 rfl rfl rfl rfl rfl rfl ?_
    refine g0 3 false 16 18 6 rfl rfl rfl rfl rfl rfl ?_
    refine g0 3 false 16 19 7 rfl rfl rfl rfl rfl rfl ?_
    refine s1 20 80 8 rfl rfl rfl rfl rfl rfl trivial ?_
    refine s1 21 88 9 rfl rfl rfl rfl rfl rfl trivial ?_
    refine g0 8 false 21 22 10 rfl rfl rfl rfl rfl rfl ?_
    refine g0 8 false 21 23 11 rfl rfl rfl rfl rfl rfl ?_
    refine g0 8 false 21 24 12 rfl rfl rfl rfl rfl rfl ?_
    refine g0 8 false 21 25 13 rfl rfl rfl rfl rfl rfl ?_
    refine g0 8 false 21 26 14 rfl rfl rfl rfl rfl rfl ?_
    refine g0 8 false 21 27 15 rfl rfl rfl rfl rfl rfl ?_
    refine s1 28 144 16 rfl rfl rfl rfl rfl rfl trivial ?_
    refine e1 152 rfl ?_
    refine keep [0, 2, 3, 5, 28] rfl ?_
    refine q1 rfl (fun hc1 => ?_) (fun hc1 => ?_)
    · skip
      try simp only [decide_eq_true_eq, decide_eq_false_iff_not, Bool.not_eq_true', Bool.not_eq_false', beq_iff_eq, bne_iff_ne, beq_eq_false_iff_ne, Bool.and_eq_true, Bool.or_eq_true, Bool.and_eq_false_iff, Bool.or_eq_false_iff, ge_iff_le, gt_iff_lt, Int.not_lt, Int.not_le, ne_eq, Decidable.not_not, bne_eq_false_iff_eq] at hc1
      refine r1 ?_
      refine s1 8 152 1 rfl rfl rfl rfl rfl rfl trivial ?_
      refine s1 9 160 2 rfl rfl rfl rfl rfl rfl trivial ?_
      refine e1 168 rfl ?_
      refine keep [8, 9] rfl ?_
      refine W_ret ?_
      refine tr ?_
      exact out2 8 9 (SV.i (guess b c p t).1) (SV.i (guess b c p t).2) (π := []) (hout := []) Try.results15 rfl rfl (by rw [guess_form (by simp [*]; try omega)]; rfl) (by rw [guess_form (by simp [*]; try omega)]; rfl) rfl rfl trivial ⟨rfl, rfl⟩
    · skip
      exact absurd hc1 (by decide)
  · skip
    try simp only [decide_eq_true_eq, decide_eq_false_iff_not, Bool.not_eq_true', Bool.not_eq_false', beq_iff_eq, bne_iff_ne, beq_eq_false_iff_ne, Bool.and_eq_true, Bool.or_eq_true, Bool.and_eq_false_iff, Bool.or_eq_false_iff, ge_iff_le, gt_iff_lt, Int.not_lt, Int.not_le, ne_eq, Decidable.not_not, bne_eq_false_iff_eq] at hg1_16
    refine g1 3 false 16 17 5 rfl rfl rfl rfl rfl ?_
    refine s1 17 56 5 rfl rfl rfl rfl rfl rfl (by first | trivial | omega | (simp only [List.length_map, List.length_append, List.length_cons, List.length_nil] at *; omega)) ?_
    refine g1 3 false 16 18 6 rfl rfl rfl rfl rfl ?_
    refine c1 (countsMay_any c hc) [] [] 18 64 6 rfl rfl rfl rfl rfl rfl rfl rfl Try.func29 rfl rfl rfl rfl trivial rfl rfl ?_
    refine g1 3 false 16 19 7 rfl rfl rfl rfl rfl ?_
    refine s1 19 72 7 rfl rfl rfl rfl rfl rfl trivial ?_
    refine s1 20 80 8 rfl rfl rfl rfl rfl rfl trivial ?_
    refine s1 21 88 9 rfl rfl rfl rfl rfl rfl trivial ?_
    refine ask 21 rfl (fun hg1_21 => ?_) (fun hg1_21 => ?_)
    · skip
      try simp only [decide_eq_true_eq, decide_eq_false_iff_not, Bool.not_eq_true', Bool.not_eq_false', beq_iff_eq, bne_iff_ne, beq_eq_false_iff_ne, Bool.and_eq_true, Bool.or_eq_true, Bool.and_eq_false_iff, Bool.or_eq_false_iff, ge_iff_le, gt_iff_lt, Int.not_lt, Int.not_le, ne_eq, Decidable.not_not, bne_eq_false_iff_eq] at hg1_21
      refine g0 8 false 21 22 10 rfl rfl rfl rfl rfl rfl ?_
      refine g0 8 false 21 23 11 rfl rfl rfl rfl rfl rfl ?_
      refine g0 8 false 21 24 12 rfl rfl rfl rfl rfl rfl ?_
      refine g0 8 false 21 25 13 rfl rfl rfl rfl rfl rfl ?_
      refine g0 8 false 21 26 14 rfl rfl rfl rfl rfl rfl ?_
      refine g0 8 false 21 27 15 rfl rfl rfl rfl rfl rfl ?_
      refine s1 28 144 16 rfl rfl rfl rfl rfl rfl trivial ?_
      refine e1 152 rfl ?_
      refine keep [0, 2, 3, 5, 28] rfl ?_
      refine q1 rfl (fun hc1 => ?_) (fun hc1 => ?_)
      · skip
        try simp only [decide_eq_true_eq, decide_eq_false_iff_not, Bool.not_eq_true', Bool.not_eq_false', beq_iff_eq, bne_iff_ne, beq_eq_false_iff_ne, Bool.and_eq_true, Bool.or_eq_true, Bool.and_eq_false_iff, Bool.or_eq_false_iff, ge_iff_le, gt_iff_lt, Int.not_lt, Int.not_le, ne_eq, Decidable.not_not, bne_eq_false_iff_eq] at hc1
        refine r1 ?_
        refine s1 8 152 1 rfl rfl rfl rfl rfl rfl trivial ?_
        refine s1 9 160 2 rfl rfl rfl rfl rfl rfl trivial ?_
        refine e1 168 rfl ?_
        refine keep [8, 9] rfl ?_
        refine W_ret ?_
        refine tr ?_
        exact out2 8 9 (SV.i (guess b c p t).1) (SV.i (guess b c p t).2) (π := []) (hout := []) Try.results15 rfl rfl (by rw [guess_form (by simp [*]; try omega)]; rfl) (by rw [guess_form (by simp [*]; try omega)]; rfl) rfl rfl trivial ⟨rfl, rfl⟩
      · skip
        exact absurd hc1 (by decide)
    · skip
      try simp only [decide_eq_true_eq, decide_eq_false_iff_not, Bool.not_eq_true', Bool.not_eq_false', beq_iff_eq, bne_iff_ne, beq_eq_false_iff_ne, Bool.and_eq_true, Bool.or_eq_true, Bool.and_eq_false_iff, Bool.or_eq_false_iff, ge_iff_le, gt_iff_lt, Int.not_lt, Int.not_le, ne_eq, Decidable.not_not, bne_eq_false_iff_eq] at hg1_21
      refine g1 8 false 21 22 10 rfl rfl rfl rfl rfl ?_
      refine s1 22 96 10 rfl rfl rfl rfl rfl rfl (by first | trivial | omega | (simp only [List.length_map, List.length_append, List.length_cons, List.length_nil] at *; omega)) ?_
      refine g1 8 false 21 23 11 rfl rfl rfl rfl rfl ?_
      refine s1 23 104 11 rfl rfl rfl rfl rfl rfl (by first | trivial | omega | (simp only [List.length_map, List.length_append, List.length_cons, List.length_nil] at *; omega)) ?_
      refine g1 8 false 21 24 12 rfl rfl rfl rfl rfl ?_
      refine s1 24 112 12 rfl rfl rfl rfl rfl rfl trivial ?_
      refine g1 8 false 21 25 13 rfl rfl rfl rfl rfl ?_
      refine s1 25 120 13 rfl rfl rfl rfl rfl rfl (by first | trivial | omega | (simp only [List.length_map, List.length_append, List.length_cons, List.length_nil] at *; omega)) ?_
      refine g1 8 false 21 26 14 rfl rfl rfl rfl rfl ?_
      refine sA 26 128 14 rfl rfl rfl rfl rfl rfl rfl rfl rfl (by have := bnd_len hg1_16; unfold inRange; omega) ?_
      refine g1 8 false 21 27 15 rfl rfl rfl rfl rfl ?_
      refine s1 27 136 15 rfl rfl rfl rfl rfl rfl (by first | trivial | omega | (simp only [List.length_map, List.length_append, List.length_cons, List.length_nil] at *; omega)) ?_
      refine s1 28 144 16 rfl rfl rfl rfl rfl rfl trivial ?_
      refine e1 152 rfl ?_
      refine keep [0, 2, 3, 5, 28] rfl ?_
      refine q1 rfl (fun hc1 => ?_) (fun hc1 => ?_)
      · skip
        try simp only [decide_eq_true_eq, decide_eq_false_iff_not, Bool.not_eq_true', Bool.not_eq_false', beq_iff_eq, bne_iff_ne, beq_eq_false_iff_ne, Bool.and_eq_true, Bool.or_eq_true, Bool.and_eq_false_iff, Bool.or_eq_false_iff, ge_iff_le, gt_iff_lt, Int.not_lt, Int.not_le, ne_eq, Decidable.not_not, bne_eq_false_iff_eq] at hc1
        refine r1 ?_
        refine s1 8 152 1 rfl rfl rfl rfl rfl rfl trivial ?_
        refine s1 9 160 2 rfl rfl rfl rfl rfl rfl trivial ?_
        refine e1 168 rfl ?_
        refine keep [8, 9] rfl ?_
        refine W_ret ?_
        refine tr ?_
        exact out2 8 9 (SV.i (guess b c p t).1) (SV.i (guess b c p t).2) (π := []) (hout := []) Try.results15 rfl rfl (by rw [guess_form (by simp [*]; try omega)]; rfl) (by rw [guess_form (by simp [*]; try omega)]; rfl) rfl rfl trivial ⟨rfl, rfl⟩
      · skip
        try simp only [decide_eq_true_eq, decide_eq_false_iff_not, Bool.not_eq_true', Bool.not_eq_false', beq_iff_eq, bne_iff_ne, beq_eq_false_iff_ne, Bool.and_eq_true, Bool.or_eq_true, Bool.and_eq_false_iff, Bool.or_eq_false_iff, ge_iff_le, gt_iff_lt, Int.not_lt, Int.not_le, ne_eq, Decidable.not_not, bne_eq_false_iff_eq] at hc1
        refine W_skip ?_
        refine tn ?_
        refine W_seq ?_
        refine r1 ?_
        refine s1 29 152 1 rfl rfl rfl rfl rfl rfl trivial ?_
        refine s1 30 160 2 rfl rfl rfl rfl rfl rfl trivial ?_
        refine c1 (shareMay_any p t) [] [] 31 168 3 rfl rfl rfl rfl rfl rfl rfl rfl Try.func33 rfl rfl rfl rfl trivial rfl rfl ?_
        refine s1 32 176 4 rfl rfl rfl rfl rfl rfl trivial ?_
        refine e1 184 rfl ?_
        refine keep [0, 2, 3, 5, 32] rfl ?_
        refine q1 rfl (fun hc3 => ?_) (fun hc3 => ?_)
        · skip
          try simp only [decide_eq_true_eq, decide_eq_false_iff_not, Bool.not_eq_true', Bool.not_eq_false', beq_iff_eq, bne_iff_ne, beq_eq_false_iff_ne, Bool.and_eq_true, Bool.or_eq_true, Bool.and_eq_false_iff, Bool.or_eq_false_iff, ge_iff_le, gt_iff_lt, Int.not_lt, Int.not_le, ne_eq, Decidable.not_not, bne_eq_false_iff_eq] at hc3
          refine r1 ?_
          refine s1 8 184 1 rfl rfl rfl rfl rfl rfl trivial ?_
          refine s1 9 192 2 rfl rfl rfl rfl rfl rfl trivial ?_
          refine e1 200 rfl ?_
          refine keep [8, 9] rfl ?_
          refine W_ret ?_
          refine tr ?_
          exact out2 8 9 (SV.i (guess b c p t).1) (SV.i (guess b c p t).2) (π := []) (hout := []) Try.results15 rfl rfl (by rw [guess_range hg1_16 hg1_21 (by omega) hc3]; rfl) (by rw [guess_range hg1_16 hg1_21 (by omega) hc3]; rfl) rfl rfl trivial ⟨rfl, rfl⟩
        · skip
          try simp only [decide_eq_true_eq, decide_eq_false_iff_not, Bool.not_eq_true', Bool.not_eq_false', beq_iff_eq, bne_iff_ne, beq_eq_false_iff_ne, Bool.and_eq_true, Bool.or_eq_true, Bool.and_eq_false_iff, Bool.or_eq_false_iff, ge_iff_le, gt_iff_lt, Int.not_lt, Int.not_le, ne_eq, Decidable.not_not, bne_eq_false_iff_eq] at hc3
          refine W_skip ?_
          refine tn ?_
          have hB : bndB b = true := by simpa using hg1_16
          have hC : cntB c = true := by simpa using hg1_21
          have hL : c.length = b.length + 1 := by omega
          have hS : shareB p t = true := by simpa using hc3
          have hS4 := share_of hS
          have hC2 := cnt_len hC
          refine r1 ?_
          refine s1 33 184 1 rfl rfl rfl rfl rfl rfl trivial ?_
          refine s1 10 192 2 rfl rfl rfl rfl rfl rfl trivial ?_
          refine e1 200 rfl ?_
          refine keep [0, 2, 3, 5, 10] rfl ?_
          refine r1 ?_
          refine s1 34 200 1 rfl rfl rfl rfl rfl rfl trivial ?_
          refine s1 35 208 2 rfl rfl rfl rfl rfl rfl (by first | trivial | omega | (simp only [List.length_map, List.length_append, List.length_cons, List.length_nil] at *; omega)) ?_
          refine s1 36 216 3 rfl rfl rfl rfl rfl rfl (by first | trivial | omega | (simp only [List.length_map, List.length_append, List.length_cons, List.length_nil] at *; omega)) ?_
          refine c1 (upTo_any c hc hC c.length (Nat.le_refl _)) [0] [0] 37 224 4 rfl rfl rfl rfl rfl rfl rfl rfl Try.func34 rfl rfl rfl rfl ⟨rfl, trivial⟩ rfl rfl ?_
          refine s1 11 232 5 rfl rfl rfl rfl rfl rfl trivial ?_
          refine e1 240 rfl ?_
          refine keep [0, 2, 3, 10, 11] rfl ?_
          refine W_seq ?_
          refine r1 ?_
          refine s1 38 240 1 rfl rfl rfl rfl rfl rfl trivial ?_
          refine s1 39 248 2 rfl rfl rfl rfl rfl rfl (by first | trivial | omega | (simp only [List.length_map, List.length_append, List.length_cons, List.length_nil] at *; omega)) ?_
          refine e1 256 rfl ?_
          refine keep [0, 2, 3, 10, 11, 39] rfl ?_
          refine q1 rfl (fun hc7 => ?_) (fun hc7 => ?_)
          · skip
            try simp only [decide_eq_true_eq, decide_eq_false_iff_not, Bool.not_eq_true', Bool.not_eq_false', beq_iff_eq, bne_iff_ne, beq_eq_false_iff_ne, Bool.and_eq_true, Bool.or_eq_true, Bool.and_eq_false_iff, Bool.or_eq_false_iff, ge_iff_le, gt_iff_lt, Int.not_lt, Int.not_le, ne_eq, Decidable.not_not, bne_eq_false_iff_eq] at hc7
            refine r1 ?_
            refine s1 8 256 1 rfl rfl rfl rfl rfl rfl trivial ?_
            refine s1 9 264 2 rfl rfl rfl rfl rfl rfl trivial ?_
            refine e1 272 rfl ?_
            refine keep [8, 9] rfl ?_
            refine W_ret ?_
            refine tr ?_
            exact out2 8 9 (SV.i (guess b c p t).1) (SV.i (guess b c p t).2) (π := []) (hout := []) Try.results15 rfl rfl (by rw [guess_zero hB hC hL hS hc7]; rfl) (by rw [guess_zero hB hC hL hS hc7]; rfl) rfl rfl trivial ⟨rfl, rfl⟩
          · skip
            try simp only [decide_eq_true_eq, decide_eq_false_iff_not, Bool.not_eq_true', Bool.not_eq_false', beq_iff_eq, bne_iff_ne, beq_eq_false_iff_ne, Bool.and_eq_true, Bool.or_eq_true, Bool.and_eq_false_iff, Bool.or_eq_false_iff, ge_iff_le, gt_iff_lt, Int.not_lt, Int.not_le, ne_eq, Decidable.not_not, bne_eq_false_iff_eq] at hc7
            refine W_skip ?_
            refine tn ?_
            refine W_seq ?_
            refine r1 ?_
            refine s1 40 256 1 rfl rfl rfl rfl rfl rfl trivial ?_
            refine s1 41 264 2 rfl rfl rfl rfl rfl rfl (by first | trivial | omega | (simp only [List.length_map, List.length_append, List.length_cons, List.length_nil] at *; omega)) ?_
            refine s1 42 272 3 rfl rfl rfl rfl rfl rfl trivial ?_
            refine e1 280 rfl ?_
            refine keep [0, 2, 3, 10, 11, 41, 42] rfl ?_
            refine W_block ?_
            refine loop (α := Nat) 1 (fun n => [(0, intsV b), (2, SV.i p), (3, SV.i t), (10, .fn 34 [.ptr 0 0 0]), (11, SV.i (sumTo c c.length)), (41, SV.i b.length), (42, SV.i n)]) (fun n => [some (.cells 24 1 [intsV c])]) (fun n => n ≤ b.length ∧ ∀ j, j < n → sumTo c (j + 1) * t < p * sumTo c c.length) (fun n => b.length - n) (0) [0] (fun _ => rfl) ⟨Nat.zero_le _, fun j hj => by omega⟩ rfl ⟨rfl, rfl, rfl, rfl, rfl, rfl, rfl, trivial⟩ ⟨rfl, trivial⟩ (fun n hx => ?_)
            obtain ⟨hn, hno⟩ := hx
            refine r1 ?_
            refine s1 43 1 1 rfl rfl rfl rfl rfl rfl (by first | trivial | omega | (simp only [List.length_map, List.length_append, List.length_cons, List.length_nil] at *; omega)) ?_
            refine e1 9 rfl ?_
            refine keep [0, 2, 3, 10, 11, 41, 42, 43] rfl ?_
            refine W_seq ?_
            refine q1 rfl (fun hc10 => ?_) (fun hc10 => ?_)
            · skip
              try simp only [decide_eq_true_eq, decide_eq_false_iff_not, Bool.not_eq_true', Bool.not_eq_false', beq_iff_eq, bne_iff_ne, beq_eq_false_iff_ne, Bool.and_eq_true, Bool.or_eq_true, Bool.and_eq_false_iff, Bool.or_eq_false_iff, ge_iff_le, gt_iff_lt, Int.not_lt, Int.not_le, ne_eq, Decidable.not_not, bne_eq_false_iff_eq] at hc10
              refine W_skip ?_
              refine tn ?_
              refine W_seq ?_
              refine W_block ?_
              refine r1 ?_
              refine s1 44 9 1 rfl rfl rfl rfl rfl rfl trivial ?_
              refine s1 12 17 2 rfl rfl rfl rfl rfl rfl trivial ?_
              refine e1 25 rfl ?_
              refine keep [0, 2, 3, 10, 11, 12, 41, 42] rfl ?_
              refine r1 ?_
              refine s1 45 25 1 rfl rfl rfl rfl rfl rfl trivial ?_
              refine s1 46 33 2 rfl rfl rfl rfl rfl rfl trivial ?_
              refine sA 47 41 3 rfl rfl rfl rfl rfl rfl rfl rfl rfl (by unfold inRange; omega) ?_
              refine c1 (upTo_any c hc hC (n + 1) (by omega)) [0] [0] 48 49 4 rfl rfl rfl rfl rfl rfl rfl rfl Try.func34 rfl rfl rfl rfl ⟨rfl, trivial⟩ rfl rfl ?_
              refine s1 49 57 5 rfl rfl rfl rfl rfl rfl trivial ?_
              refine sA 50 65 6 rfl rfl rfl rfl rfl rfl rfl rfl rfl (by have := sum_in hC (n := n + 1) (by omega) (t := t) (by omega) (by omega); exact this) ?_
              refine s1 51 73 7 rfl rfl rfl rfl rfl rfl trivial ?_
              refine s1 52 81 8 rfl rfl rfl rfl rfl rfl trivial ?_
              refine sA 53 89 9 rfl rfl rfl rfl rfl rfl rfl rfl rfl (by have := sum_in hC (n := c.length) (Nat.le_refl _) (t := p) (by omega) (by omega); rw [Int.mul_comm] at this; exact this) ?_
              refine s1 54 97 10 rfl rfl rfl rfl rfl rfl (by first | trivial | omega | (simp only [List.length_map, List.length_append, List.length_cons, List.length_nil] at *; omega)) ?_
              refine e1 105 rfl ?_
              refine keep [0, 2, 3, 10, 11, 12, 41, 42, 54] rfl ?_
              refine q1 rfl (fun hc12 => ?_) (fun hc12 => ?_)
              · skip
                try simp only [decide_eq_true_eq, decide_eq_false_iff_not, Bool.not_eq_true', Bool.not_eq_false', beq_iff_eq, bne_iff_ne, beq_eq_false_iff_ne, Bool.and_eq_true, Bool.or_eq_true, Bool.and_eq_false_iff, Bool.or_eq_false_iff, ge_iff_le, gt_iff_lt, Int.not_lt, Int.not_le, ne_eq, Decidable.not_not, bne_eq_false_iff_eq] at hc12
                refine r1 ?_
                refine s1 55 105 1 rfl rfl rfl rfl rfl rfl trivial ?_
                refine s1 56 113 2 rfl rfl rfl rfl rfl rfl trivial ?_
                refine s1 57 121 3 rfl rfl rfl rfl rfl rfl (by first | trivial | omega | (simp only [List.length_map, List.length_append, List.length_cons, List.length_nil] at *; omega)) ?_
                refine s1 58 129 4 rfl rfl rfl rfl rfl rfl (by first | trivial | omega | (simp only [List.length_map, List.length_append, List.length_cons, List.length_nil] at *; omega)) ?_
                refine s1 8 137 5 rfl rfl rfl rfl rfl rfl trivial ?_
                refine s1 9 145 6 rfl rfl rfl rfl rfl rfl trivial ?_
                refine e1 153 rfl ?_
                refine keep [8, 9] rfl ?_
                refine W_ret ?_
                refine br ?_
                refine tr ?_
                refine tr ?_
                refine br ?_
                refine tr ?_
                exact out2 8 9 (SV.i (guess b c p t).1) (SV.i (guess b c p t).2) (π := []) (hout := []) Try.results15 rfl rfl (by rw [guess_at hB hC hL hS hc7 (by omega) hc12 hno]; rfl) (by rw [guess_at hB hC hL hS hc7 (by omega) hc12 hno]; rfl) rfl rfl trivial ⟨rfl, rfl⟩
              · skip
                try simp only [decide_eq_true_eq, decide_eq_false_iff_not, Bool.not_eq_true', Bool.not_eq_false', beq_iff_eq, bne_iff_ne, beq_eq_false_iff_ne, Bool.and_eq_true, Bool.or_eq_true, Bool.and_eq_false_iff, Bool.or_eq_false_iff, ge_iff_le, gt_iff_lt, Int.not_lt, Int.not_le, ne_eq, Decidable.not_not, bne_eq_false_iff_eq] at hc12
                refine W_skip ?_
                refine bn ?_
                refine tn ?_
                refine r0 ?_
                refine sA 59 105 1 rfl rfl rfl rfl rfl rfl rfl rfl rfl (by unfold inRange; omega) ?_
                refine s1 42 113 2 rfl rfl rfl rfl rfl rfl trivial ?_
                refine e1 121 rfl ?_
                refine tn ?_
                exact again (n + 1) [0] ⟨by omega, fun j hj => by by_cases e : j = n; (subst e; exact hc12); exact hno j (by omega)⟩ (by omega) rfl ⟨rfl, rfl, rfl, rfl, rfl, rfl, rfl, trivial⟩ ⟨rfl, trivial⟩
            · skip
              try simp only [decide_eq_true_eq, decide_eq_false_iff_not, Bool.not_eq_true', Bool.not_eq_false', beq_iff_eq, bne_iff_ne, beq_eq_false_iff_ne, Bool.and_eq_true, Bool.or_eq_true, Bool.and_eq_false_iff, Bool.or_eq_false_iff, ge_iff_le, gt_iff_lt, Int.not_lt, Int.not_le, ne_eq, Decidable.not_not, bne_eq_false_iff_eq] at hc10
              refine W_exit ?_
              refine tx ?_
              refine tx ?_
              refine bx ?_
              refine tn ?_
              refine r1 ?_
              refine s1 8 9 1 rfl rfl rfl rfl rfl rfl trivial ?_
              refine s1 9 17 2 rfl rfl rfl rfl rfl rfl trivial ?_
              refine e1 25 rfl ?_
              refine keep [8, 9] rfl ?_
              refine W_ret ?_
              exact out2 8 9 (SV.i (guess b c p t).1) (SV.i (guess b c p t).2) (π := []) (hout := []) Try.results15 rfl rfl (by rw [guess_none hB hC hL hS hc7 (fun j hj => hno j (by omega))]; rfl) (by rw [guess_none hB hC hL hS hc7 (fun j hj => hno j (by omega))]; rfl) rfl rfl trivial ⟨rfl, rfl⟩

theorem law_any (b c : List Int) (p t : Int) (hb : b.length ≤ 9223372036854775807) (hc : c.length ≤ 9223372036854775807) : Spec Try.prog G0 5 [intsV b, intsV c, SV.i p, SV.i t] [] (fun r _ => r = SV.b true) := by
  refine start 37 0 Try.func5 rfl rfl rfl rfl ?_
  refine r1 ?_
  refine s1 8 0 1 rfl rfl rfl rfl rfl rfl trivial ?_
  refine e1 8 rfl ?_
  refine keep [0, 1, 2, 3] rfl ?_
  refine r1 ?_
  refine s1 14 8 1 rfl rfl rfl rfl rfl rfl trivial ?_
  refine s1 15 16 2 rfl rfl rfl rfl rfl rfl trivial ?_
  refine s1 16 24 3 rfl rfl rfl rfl rfl rfl trivial ?_
  refine s1 17 32 4 rfl rfl rfl rfl rfl rfl trivial ?_
  refine c1 (guess_any b c p t hb hc) [] [] 18 40 5 rfl rfl rfl rfl rfl rfl rfl rfl Try.func14 rfl rfl rfl rfl trivial rfl rfl ?_
  refine s1 13 48 6 rfl rfl rfl rfl rfl rfl trivial ?_
  refine s1 19 56 7 rfl rfl rfl rfl rfl rfl trivial ?_
  refine s1 20 64 8 rfl rfl rfl rfl rfl rfl trivial ?_
  refine s1 9 72 9 rfl rfl rfl rfl rfl rfl trivial ?_
  refine s1 10 80 10 rfl rfl rfl rfl rfl rfl trivial ?_
  refine e1 88 rfl ?_
  refine keep [0, 1, 2, 3, 9, 10] rfl ?_
  refine r1 ?_
  refine s1 22 88 1 rfl rfl rfl rfl rfl rfl trivial ?_
  refine s1 23 96 2 rfl rfl rfl rfl rfl rfl trivial ?_
  refine s1 24 104 3 rfl rfl rfl rfl rfl rfl trivial ?_
  refine s1 25 112 4 rfl rfl rfl rfl rfl rfl trivial ?_
  refine c1 (refGuess_any b c p t hb hc) [] [] 26 120 5 rfl rfl rfl rfl rfl rfl rfl rfl Try.func15 rfl rfl rfl rfl trivial rfl rfl ?_
  refine s1 21 128 6 rfl rfl rfl rfl rfl rfl trivial ?_
  refine s1 27 136 7 rfl rfl rfl rfl rfl rfl trivial ?_
  refine s1 28 144 8 rfl rfl rfl rfl rfl rfl trivial ?_
  refine s1 11 152 9 rfl rfl rfl rfl rfl rfl trivial ?_
  refine s1 12 160 10 rfl rfl rfl rfl rfl rfl trivial ?_
  refine e1 168 rfl ?_
  refine keep [9, 10, 11, 12] rfl ?_
  refine r1 ?_
  refine s1 29 168 1 rfl rfl rfl rfl rfl rfl trivial ?_
  refine s1 30 176 2 rfl rfl rfl rfl rfl rfl trivial ?_
  refine s1 31 184 3 rfl rfl rfl rfl rfl rfl (by first | trivial | omega | (simp only [List.length_map, List.length_append, List.length_cons, List.length_nil] at *; omega)) ?_
  refine s1 32 192 4 rfl rfl rfl rfl rfl rfl trivial ?_
  refine ask 32 rfl (fun hg3_32 => ?_) (fun hg3_32 => ?_)
  · skip
    try simp only [decide_eq_true_eq, decide_eq_false_iff_not, Bool.not_eq_true', Bool.not_eq_false', beq_iff_eq, bne_iff_ne, beq_eq_false_iff_ne, Bool.and_eq_true, Bool.or_eq_true, Bool.and_eq_false_iff, Bool.or_eq_false_iff, ge_iff_le, gt_iff_lt, Int.not_lt, Int.not_le, ne_eq, Decidable.not_not, bne_eq_false_iff_eq] at hg3_32
    refine g1 3 true 32 33 5 rfl rfl rfl rfl rfl ?_
    refine s1 33 200 5 rfl rfl rfl rfl rfl rfl trivial ?_
    refine g1 3 true 32 34 6 rfl rfl rfl rfl rfl ?_
    refine s1 34 208 6 rfl rfl rfl rfl rfl rfl trivial ?_
    refine g1 3 true 32 35 7 rfl rfl rfl rfl rfl ?_
    refine s1 35 216 7 rfl rfl rfl rfl rfl rfl (by first | trivial | omega | (simp only [List.length_map, List.length_append, List.length_cons, List.length_nil] at *; omega)) ?_
    refine s1 36 224 8 rfl rfl rfl rfl rfl rfl trivial ?_
    refine s1 8 232 9 rfl rfl rfl rfl rfl rfl trivial ?_
    refine e1 240 rfl ?_
    refine keep [8] rfl ?_
    refine W_ret ?_
    exact out1 8 (SV.b true) (π := []) (hout := []) Try.results5 rfl (by first | (simp; done) | (simp; rfl) | (simp at *; done)) rfl rfl trivial rfl
  · skip
    try simp only [decide_eq_true_eq, decide_eq_false_iff_not, Bool.not_eq_true', Bool.not_eq_false', beq_iff_eq, bne_iff_ne, beq_eq_false_iff_ne, Bool.and_eq_true, Bool.or_eq_true, Bool.and_eq_false_iff, Bool.or_eq_false_iff, ge_iff_le, gt_iff_lt, Int.not_lt, Int.not_le, ne_eq, Decidable.not_not, bne_eq_false_iff_eq] at hg3_32
    refine g0 3 true 32 33 5 rfl rfl rfl rfl rfl rfl ?_
    refine g0 3 true 32 34 6 rfl rfl rfl rfl rfl rfl ?_
    refine g0 3 true 32 35 7 rfl rfl rfl rfl rfl rfl ?_
    refine s1 36 224 8 rfl rfl rfl rfl rfl rfl trivial ?_
    refine s1 8 232 9 rfl rfl rfl rfl rfl rfl trivial ?_
    refine e1 240 rfl ?_
    refine keep [8] rfl ?_
    refine W_ret ?_
    exact out1 8 (SV.b true) (π := []) (hout := []) Try.results5 rfl (by first | (simp; done) | (simp; rfl) | (simp at *; done)) rfl rfl trivial rfl

end Go.Proofs.Ytlhncpbcbpdcfaa.Nice
