/- Histograms joined: the program's and the document's. -/
import Derived.Test.YtlhncpbcbpdcfaaQuantGuess
import Derived.Test.YtlhncpbcbpdcfaaNiceN
namespace Go.Proofs.Ytlhncpbcbpdcfaa.Nice
open Go
set_option linter.unusedVariables false
set_option linter.unusedSimpArgs false
set_option maxRecDepth 100000
def sums (a b : List Int) : List Int := (List.range a.length).map fun i => a.getD i 0 + b.getD i 0
theorem sums_len (a b : List Int) : (sums a b).length = a.length := by simp [sums]
theorem sums_at (a b : List Int) {i : Nat} (h : i < a.length) : (sums a b).getD i 0 = a.getD i 0 + b.getD i 0 := by simp [sums, List.getD, h]
def mixF (a b : List Int) (n : Nat) : Nat → Nat → D := fun i _ => .val (.int .i64 (if i < n then a.getD i 0 + b.getD i 0 else a.getD i 0))
def qjoin (a b : List Int) : List Int × Int :=
  if cntB a = true ∧ cntB b = true then
    if a.length = b.length then
      if cntB (sums a b) = true then (sums a b, 0) else ([], 11)
    else ([], 1)
  else ([], 4)
theorem qj_form {a b : List Int} (h : ¬ (cntB a = true ∧ cntB b = true)) : qjoin a b = ([], 4) := by unfold qjoin; rw [if_neg h]
theorem qj_size {a b : List Int} (h : cntB a = true) (h1 : cntB b = true) (h2 : ¬ a.length = b.length) : qjoin a b = ([], 1) := by unfold qjoin; rw [if_pos ⟨h, h1⟩, if_neg h2]
theorem qj_over {a b : List Int} (h : cntB a = true) (h1 : cntB b = true) (h2 : a.length = b.length) (h3 : cntB (sums a b) = false) : qjoin a b = ([], 11) := by unfold qjoin; rw [if_pos ⟨h, h1⟩, if_pos h2, if_neg (by rw [h3]; decide)]
theorem qj_ok {a b : List Int} (h : cntB a = true) (h1 : cntB b = true) (h2 : a.length = b.length) (h3 : cntB (sums a b) = true) : qjoin a b = (sums a b, 0) := by unfold qjoin; rw [if_pos ⟨h, h1⟩, if_pos h2, if_pos h3]
theorem sums_over {a b : List Int} {n : Nat} (hn : n < a.length) (h : 1048576 < a.getD n 0 + b.getD n 0) : cntB (sums a b) = false := by
  cases e : cntB (sums a b) with
  | false => rfl
  | true =>
    have := cnt_at e (n := n) (by rw [sums_len]; exact hn)
    rw [sums_at a b hn] at this; omega
theorem sums_ok {a b : List Int} (ha : cntB a = true) (hb : cntB b = true) (hl : a.length = b.length) (h : ∀ j, j < a.length → a.getD j 0 + b.getD j 0 ≤ 1048576) : cntB (sums a b) = true := by
  have h1 := cnt_len ha
  unfold cntB
  rw [sums_len, any_none (fun j hj => ?_)]
  · simp; omega
  · rw [sums_len] at hj
    have := cnt_at ha hj
    have := cnt_at hb (show j < b.length by omega)
    have := h j hj
    rw [sums_at a b hj]
    unfold badN
    rw [Bool.or_eq_false_iff, decide_eq_false_iff_not, decide_eq_false_iff_not]; omega
theorem mix_step (a b : List Int) (n : Nat) {x : Int} (hx : x = a.getD n 0 + b.getD n 0) (i c : Nat) (hc : c < 1) : updR (mixF a b n) n 0 [.val (.int .i64 x)] i c = mixF a b (n + 1) i c := by
  obtain rfl : c = 0 := by omega
  unfold updR mixF
  by_cases h : i = n
  · subst h; simp [hx]
  · rw [if_neg (by simp [h])]
    simp only [show (i < n + 1) = (i < n) by simp; omega]
theorem mix_sums (a b : List Int) (i c : Nat) (hi : i < a.length) : mixF a b a.length i c = intsF (sums a b) i c := by
  unfold mixF intsF
  rw [sums_at a b hi, if_pos hi]
theorem cat_step (a b : List Int) (n : Nat) {x : Int} (hx : x = a.getD n 0 + b.getD n 0) (i c : Nat) (hi : i < n + 1) (hc : c < 1) : catR (mixF a b n) n (litR 1 [.val (.int .i64 x)]) i c = mixF a b (n + 1) i c := by
  obtain rfl : c = 0 := by omega
  unfold catR mixF
  by_cases h : i < n
  · simp only [if_pos h]; rw [if_pos hi]
  · obtain rfl : i = n := by omega
    simp [litR, hx]
def sameB (x y : List Int) : Bool := decide (x = y)
theorem same_of {x y : List Int} (hl : x.length = y.length) (h : ∀ j, j < x.length → x.getD j 0 = y.getD j 0) : x = y := by
  refine List.ext_getElem hl fun i h1 h2 => ?_
  have := h i h1
  rwa [getD_lt h1, getD_lt h2] at this

theorem same_any (x y : List Int) (hxl : x.length ≤ 9223372036854775807) (hy : y.length ≤ 9223372036854775807) : Spec Try.prog G0 13 [intsV x, intsV y] [] (fun r ho => r = SV.b (sameB x y) ∧ ho = []) := by
  refine start 26 0 Try.func13 rfl rfl rfl rfl ?_
  refine r1 ?_
  refine s1 4 0 1 rfl rfl rfl rfl rfl rfl trivial ?_
  refine e1 8 rfl ?_
  refine keep [0, 1] rfl ?_
  refine W_seq ?_
  refine r1 ?_
  refine s1 6 8 1 rfl rfl rfl rfl rfl rfl trivial ?_
  refine s1 7 16 2 rfl rfl rfl rfl rfl rfl (by first | trivial | omega | (simp only [List.length_map, List.length_append, List.length_cons, List.length_nil] at *; omega)) ?_
  refine s1 8 24 3 rfl rfl rfl rfl rfl rfl trivial ?_
  refine s1 9 32 4 rfl rfl rfl rfl rfl rfl (by first | trivial | omega | (simp only [List.length_map, List.length_append, List.length_cons, List.length_nil] at *; omega)) ?_
  refine s1 10 40 5 rfl rfl rfl rfl rfl rfl (by first | trivial | omega | (simp only [List.length_map, List.length_append, List.length_cons, List.length_nil] at *; omega)) ?_
  refine e1 48 rfl ?_
  refine keep [0, 1, 10] rfl ?_
  refine q1 rfl (fun hc1 => ?_) (fun hc1 => ?_)
  · skip
    try simp only [decide_eq_true_eq, decide_eq_false_iff_not, Bool.not_eq_true', Bool.not_eq_false', beq_iff_eq, bne_iff_ne, beq_eq_false_iff_ne, Bool.and_eq_true, Bool.or_eq_true, Bool.and_eq_false_iff, Bool.or_eq_false_iff, ge_iff_le, gt_iff_lt, Int.not_lt, Int.not_le, ne_eq, Decidable.not_not, bne_eq_false_iff_eq] at hc1
    refine r1 ?_
    refine s1 4 48 1 rfl rfl rfl rfl rfl rfl trivial ?_
    refine e1 56 rfl ?_
    refine keep [4] rfl ?_
    refine W_ret ?_
    refine tr ?_
    exact out1 4 (SV.b (sameB x y)) (π := []) (hout := []) Try.results13 rfl (by show SV.b _ = SV.b _; refine congrArg SV.b ?_; unfold sameB; rw [decide_eq_false]; intro e; subst e; omega) rfl rfl trivial ⟨rfl, rfl⟩
  · skip
    try simp only [decide_eq_true_eq, decide_eq_false_iff_not, Bool.not_eq_true', Bool.not_eq_false', beq_iff_eq, bne_iff_ne, beq_eq_false_iff_ne, Bool.and_eq_true, Bool.or_eq_true, Bool.and_eq_false_iff, Bool.or_eq_false_iff, ge_iff_le, gt_iff_lt, Int.not_lt, Int.not_le, ne_eq, Decidable.not_not, bne_eq_false_iff_eq] at hc1
    refine W_skip ?_
    refine tn ?_
    refine W_seq ?_
    refine r1 ?_
    refine s1 5 48 1 rfl rfl rfl rfl rfl rfl trivial ?_
    refine e1 56 rfl ?_
    refine keep [0, 1, 5] rfl ?_
    refine W_block ?_
    have hl : x.length = y.length := (by omega)
    refine loop (α := Nat) 0 (fun n => [(0, intsV x), (1, intsV y), (5, SV.i n)]) (fun n => []) (fun n => n ≤ x.length ∧ ∀ j, j < n → x.getD j 0 = y.getD j 0) (fun n => x.length - n) (0) [] (fun _ => rfl) ⟨Nat.zero_le _, fun j hj => by omega⟩ rfl ⟨rfl, rfl, rfl, trivial⟩ trivial (fun n hx => ?_)
    obtain ⟨hn, hno⟩ := hx
    refine W_seq ?_
    refine r1 ?_
    refine s1 11 0 1 rfl rfl rfl rfl rfl rfl trivial ?_
    refine s1 12 8 2 rfl rfl rfl rfl rfl rfl trivial ?_
    refine s1 13 16 3 rfl rfl rfl rfl rfl rfl (by first | trivial | omega | (simp only [List.length_map, List.length_append, List.length_cons, List.length_nil] at *; omega)) ?_
    refine s1 14 24 4 rfl rfl rfl rfl rfl rfl (by first | trivial | omega | (simp only [List.length_map, List.length_append, List.length_cons, List.length_nil] at *; omega)) ?_
    refine e1 32 rfl ?_
    refine keep [0, 1, 5, 14] rfl ?_
    refine q1 rfl (fun hc4 => ?_) (fun hc4 => ?_)
    · skip
      try simp only [decide_eq_true_eq, decide_eq_false_iff_not, Bool.not_eq_true', Bool.not_eq_false', beq_iff_eq, bne_iff_ne, beq_eq_false_iff_ne, Bool.and_eq_true, Bool.or_eq_true, Bool.and_eq_false_iff, Bool.or_eq_false_iff, ge_iff_le, gt_iff_lt, Int.not_lt, Int.not_le, ne_eq, Decidable.not_not, bne_eq_false_iff_eq] at hc4
      refine W_skip ?_
      refine tn ?_
      refine W_seq ?_
      refine W_block ?_
      refine rd1 rfl ?_
      refine d1 17 32 1 rfl rfl rfl rfl rfl rfl trivial ?_
      refine d1 18 40 2 rfl rfl rfl rfl rfl rfl trivial ?_
      refine d1 19 48 3 rfl rfl rfl rfl rfl rfl (by first | trivial | omega | (simp only [List.length_map, List.length_append, List.length_cons, List.length_nil] at *; omega)) ?_
      refine d1 20 56 4 rfl rfl rfl rfl rfl rfl (by first | trivial | omega | (simp only [List.length_map, List.length_append, List.length_cons, List.length_nil] at *; omega)) ?_
      refine d1 21 64 5 rfl rfl rfl rfl rfl rfl trivial ?_
      refine d1 22 72 6 rfl rfl rfl rfl rfl rfl trivial ?_
      refine d1 23 80 7 rfl rfl rfl rfl rfl rfl (by first | trivial | omega | (simp only [List.length_map, List.length_append, List.length_cons, List.length_nil] at *; omega)) ?_
      refine d1 24 88 8 rfl rfl rfl rfl rfl rfl (by first | trivial | omega | (simp only [List.length_map, List.length_append, List.length_cons, List.length_nil] at *; omega)) ?_
      refine d1 25 96 9 rfl rfl rfl rfl rfl rfl (by first | trivial | omega | (simp only [List.length_map, List.length_append, List.length_cons, List.length_nil] at *; omega)) ?_
      refine de1 104 rfl (by kernel_rfl) ?_
      refine keep [0, 1, 5, 25] rfl ?_
      refine q1 rfl (fun hc6 => ?_) (fun hc6 => ?_)
      · skip
        try simp only [decide_eq_true_eq, decide_eq_false_iff_not, Bool.not_eq_true', Bool.not_eq_false', beq_iff_eq, bne_iff_ne, beq_eq_false_iff_ne, Bool.and_eq_true, Bool.or_eq_true, Bool.and_eq_false_iff, Bool.or_eq_false_iff, ge_iff_le, gt_iff_lt, Int.not_lt, Int.not_le, ne_eq, Decidable.not_not, bne_eq_false_iff_eq] at hc6
        refine r1 ?_
        refine s1 4 104 1 rfl rfl rfl rfl rfl rfl trivial ?_
        refine e1 112 rfl ?_
        refine keep [4] rfl ?_
        refine W_ret ?_
        refine br ?_
        refine tr ?_
        refine tr ?_
        refine br ?_
        refine tr ?_
        exact out1 4 (SV.b (sameB x y)) (π := []) (hout := []) Try.results13 rfl (by show SV.b _ = SV.b _; refine congrArg SV.b ?_; unfold sameB; rw [decide_eq_false]; intro e; subst e; exact hc6 rfl) rfl rfl trivial ⟨rfl, rfl⟩
      · skip
        try simp only [decide_eq_true_eq, decide_eq_false_iff_not, Bool.not_eq_true', Bool.not_eq_false', beq_iff_eq, bne_iff_ne, beq_eq_false_iff_ne, Bool.and_eq_true, Bool.or_eq_true, Bool.and_eq_false_iff, Bool.or_eq_false_iff, ge_iff_le, gt_iff_lt, Int.not_lt, Int.not_le, ne_eq, Decidable.not_not, bne_eq_false_iff_eq] at hc6
        refine W_skip ?_
        refine bn ?_
        refine tn ?_
        refine r0 ?_
        refine s1 15 104 1 rfl rfl rfl rfl rfl rfl trivial ?_
        refine sA 16 112 2 rfl rfl rfl rfl rfl rfl rfl rfl rfl (by unfold inRange; omega) ?_
        refine s1 5 120 3 rfl rfl rfl rfl rfl rfl trivial ?_
        refine e1 128 rfl ?_
        refine tn ?_
        exact again (n + 1) [] ⟨by omega, fun j hj => by by_cases e : j = n; (subst e; exact hc6); exact hno j (by omega)⟩ (by omega) rfl ⟨rfl, rfl, rfl, trivial⟩ trivial
    · skip
      try simp only [decide_eq_true_eq, decide_eq_false_iff_not, Bool.not_eq_true', Bool.not_eq_false', beq_iff_eq, bne_iff_ne, beq_eq_false_iff_ne, Bool.and_eq_true, Bool.or_eq_true, Bool.and_eq_false_iff, Bool.or_eq_false_iff, ge_iff_le, gt_iff_lt, Int.not_lt, Int.not_le, ne_eq, Decidable.not_not, bne_eq_false_iff_eq] at hc4
      refine W_exit ?_
      refine tx ?_
      refine tx ?_
      refine bx ?_
      refine tn ?_
      refine r1 ?_
      refine s1 4 32 1 rfl rfl rfl rfl rfl rfl trivial ?_
      refine e1 40 rfl ?_
      refine keep [4] rfl ?_
      refine W_ret ?_
      exact out1 4 (SV.b (sameB x y)) (π := []) (hout := []) Try.results13 rfl (by show SV.b _ = SV.b _; refine congrArg SV.b ?_; unfold sameB; rw [decide_eq_true]; exact same_of hl (fun j hj => hno j (by omega))) rfl rfl trivial ⟨rfl, rfl⟩

theorem clone_any (l : List Int) (h0 : 1 ≤ l.length) (hl : l.length ≤ 1048576) : Spec Try.prog G0 28 [intsV l] [] (fun r ho => r = SV.sl 0 0 l.length ∧ ho = [some (.rows 3 1 l.length (intsF l))]) := by
  refine start 8 0 Try.func28 rfl rfl rfl rfl ?_
  refine r1 ?_
  refine s1 2 0 1 rfl rfl rfl rfl rfl rfl trivial ?_
  refine e1 8 rfl ?_
  refine keep [0] rfl ?_
  refine W_seq ?_
  refine r1 ?_
  refine s1 3 8 1 rfl rfl rfl rfl rfl rfl trivial ?_
  refine s1 4 16 2 rfl rfl rfl rfl rfl rfl (by omega) ?_
  refine e1 24 rfl ?_
  refine keep [0, 4] rfl ?_
  refine q1 rfl (fun hc1 => ?_) (fun hc1 => ?_)
  · skip
    exact absurd hc1 (by decide)
  · skip
    try simp only [decide_eq_true_eq, decide_eq_false_iff_not, Bool.not_eq_true', Bool.not_eq_false', beq_iff_eq, bne_iff_ne, beq_eq_false_iff_ne, Bool.and_eq_true, Bool.or_eq_true, Bool.and_eq_false_iff, Bool.or_eq_false_iff, ge_iff_le, gt_iff_lt, Int.not_lt, Int.not_le, ne_eq, Decidable.not_not, bne_eq_false_iff_eq] at hc1
    refine W_skip ?_
    refine tn ?_
    refine r1 ?_
    refine s1 5 24 1 rfl rfl rfl rfl rfl rfl trivial ?_
    refine s1 6 32 2 rfl rfl rfl rfl rfl rfl trivial ?_
    refine s1 7 40 3 rfl rfl rfl rfl rfl rfl ⟨trivial, (by show l.length * 8 ≤ 140737488355328; omega), (by simp only [maxLen]; omega)⟩ ?_
    refine s1 2 48 4 rfl rfl rfl rfl rfl rfl trivial ?_
    refine e1 56 rfl ?_
    refine keep [2] rfl ?_
    refine W_ret ?_
    exact out1 2 (SV.sl 0 0 l.length) (π := [40]) (hout := [some (.rows 3 1 l.length (intsF l))]) Try.results28 rfl rfl rfl rfl ⟨rfl, trivial⟩ ⟨rfl, rfl⟩

theorem join_any (a b : List Int) (ha : a.length ≤ 9223372036854775807) (hb : b.length ≤ 9223372036854775807) : Spec Try.prog G0 11 [intsV a, intsV b] [] (fun r ho => r = SV.tup [intsV (qjoin a b).1, SV.i (qjoin a b).2] ∧ ho = []) := by
  refine start 45 0 Try.func11 rfl rfl rfl rfl ?_
  refine r1 ?_
  refine s1 4 0 1 rfl rfl rfl rfl rfl rfl trivial ?_
  refine s1 5 8 2 rfl rfl rfl rfl rfl rfl trivial ?_
  refine e1 16 rfl ?_
  refine keep [0, 1] rfl ?_
  refine W_seq ?_
  refine W_block ?_
  refine r1 ?_
  refine s1 10 16 1 rfl rfl rfl rfl rfl rfl trivial ?_
  refine c1 (counted_any a ha) [] [] 11 24 2 rfl rfl rfl rfl rfl rfl rfl rfl Try.func27 rfl rfl rfl rfl trivial rfl rfl ?_
  refine s1 12 32 3 rfl rfl rfl rfl rfl rfl trivial ?_
  refine s1 13 40 4 rfl rfl rfl rfl rfl rfl trivial ?_
  refine ask 13 rfl (fun hg1_13 => ?_) (fun hg1_13 => ?_)
  · skip
    try simp only [decide_eq_true_eq, decide_eq_false_iff_not, Bool.not_eq_true', Bool.not_eq_false', beq_iff_eq, bne_iff_ne, beq_eq_false_iff_ne, Bool.and_eq_true, Bool.or_eq_true, Bool.and_eq_false_iff, Bool.or_eq_false_iff, ge_iff_le, gt_iff_lt, Int.not_lt, Int.not_le, ne_eq, Decidable.not_not, bne_eq_false_iff_eq] at hg1_13
    refine g0 3 false 13 14 5 rfl rfl rfl rfl rfl rfl ?_
    refine g0 3 false 13 15 6 rfl rfl rfl rfl rfl rfl ?_
    refine g0 3 false 13 16 7 rfl rfl rfl rfl rfl rfl ?_
    refine s1 17 72 8 rfl rfl rfl rfl rfl rfl trivial ?_
    refine s1 9 80 9 rfl rfl rfl rfl rfl rfl trivial ?_
    refine e1 88 rfl ?_
    refine keep [0, 1, 9] rfl ?_
    refine q1 rfl (fun hc1 => ?_) (fun hc1 => ?_)
    · skip
      try simp only [decide_eq_true_eq, decide_eq_false_iff_not, Bool.not_eq_true', Bool.not_eq_false', beq_iff_eq, bne_iff_ne, beq_eq_false_iff_ne, Bool.and_eq_true, Bool.or_eq_true, Bool.and_eq_false_iff, Bool.or_eq_false_iff, ge_iff_le, gt_iff_lt, Int.not_lt, Int.not_le, ne_eq, Decidable.not_not, bne_eq_false_iff_eq] at hc1
      refine r1 ?_
      refine s1 4 88 1 rfl rfl rfl rfl rfl rfl trivial ?_
      refine s1 5 96 2 rfl rfl rfl rfl rfl rfl trivial ?_
      refine e1 104 rfl ?_
      refine keep [4, 5] rfl ?_
      refine nilv 4 1 (intsF []) rfl ?_
      refine W_ret ?_
      refine br ?_
      refine tr ?_
      exact out2 4 5 (intsV (qjoin a b).1) (SV.i (qjoin a b).2) (π := []) (hout := []) Try.results11 rfl rfl (by rw [qj_form (by simp [*])]; rfl) (by rw [qj_form (by simp [*])]; rfl) rfl rfl trivial ⟨rfl, rfl⟩
    · skip
      exact absurd hc1 (by decide)
  · skip
    try simp only [decide_eq_true_eq, decide_eq_false_iff_not, Bool.not_eq_true', Bool.not_eq_false', beq_iff_eq, bne_iff_ne, beq_eq_false_iff_ne, Bool.and_eq_true, Bool.or_eq_true, Bool.and_eq_false_iff, Bool.or_eq_false_iff, ge_iff_le, gt_iff_lt, Int.not_lt, Int.not_le, ne_eq, Decidable.not_not, bne_eq_false_iff_eq] at hg1_13
    refine g1 3 false 13 14 5 rfl rfl rfl rfl rfl ?_
    refine s1 14 48 5 rfl rfl rfl rfl rfl rfl trivial ?_
    refine g1 3 false 13 15 6 rfl rfl rfl rfl rfl ?_
    refine c1 (counted_any b hb) [] [] 15 56 6 rfl rfl rfl rfl rfl rfl rfl rfl Try.func27 rfl rfl rfl rfl trivial rfl rfl ?_
    refine g1 3 false 13 16 7 rfl rfl rfl rfl rfl ?_
    refine s1 16 64 7 rfl rfl rfl rfl rfl rfl trivial ?_
    refine s1 17 72 8 rfl rfl rfl rfl rfl rfl trivial ?_
    refine s1 9 80 9 rfl rfl rfl rfl rfl rfl trivial ?_
    refine e1 88 rfl ?_
    refine keep [0, 1, 9] rfl ?_
    refine q1 rfl (fun hc1 => ?_) (fun hc1 => ?_)
    · skip
      try simp only [decide_eq_true_eq, decide_eq_false_iff_not, Bool.not_eq_true', Bool.not_eq_false', beq_iff_eq, bne_iff_ne, beq_eq_false_iff_ne, Bool.and_eq_true, Bool.or_eq_true, Bool.and_eq_false_iff, Bool.or_eq_false_iff, ge_iff_le, gt_iff_lt, Int.not_lt, Int.not_le, ne_eq, Decidable.not_not, bne_eq_false_iff_eq] at hc1
      refine r1 ?_
      refine s1 4 88 1 rfl rfl rfl rfl rfl rfl trivial ?_
      refine s1 5 96 2 rfl rfl rfl rfl rfl rfl trivial ?_
      refine e1 104 rfl ?_
      refine keep [4, 5] rfl ?_
      refine nilv 4 1 (intsF []) rfl ?_
      refine W_ret ?_
      refine br ?_
      refine tr ?_
      exact out2 4 5 (intsV (qjoin a b).1) (SV.i (qjoin a b).2) (π := []) (hout := []) Try.results11 rfl rfl (by rw [qj_form (by simp [*])]; rfl) (by rw [qj_form (by simp [*])]; rfl) rfl rfl trivial ⟨rfl, rfl⟩
    · skip
      try simp only [decide_eq_true_eq, decide_eq_false_iff_not, Bool.not_eq_true', Bool.not_eq_false', beq_iff_eq, bne_iff_ne, beq_eq_false_iff_ne, Bool.and_eq_true, Bool.or_eq_true, Bool.and_eq_false_iff, Bool.or_eq_false_iff, ge_iff_le, gt_iff_lt, Int.not_lt, Int.not_le, ne_eq, Decidable.not_not, bne_eq_false_iff_eq] at hc1
      refine r1 ?_
      refine s1 19 88 1 rfl rfl rfl rfl rfl rfl trivial ?_
      refine s1 20 96 2 rfl rfl rfl rfl rfl rfl (by first | trivial | omega | (simp only [List.length_map, List.length_append, List.length_cons, List.length_nil] at *; omega)) ?_
      refine s1 21 104 3 rfl rfl rfl rfl rfl rfl trivial ?_
      refine s1 22 112 4 rfl rfl rfl rfl rfl rfl (by first | trivial | omega | (simp only [List.length_map, List.length_append, List.length_cons, List.length_nil] at *; omega)) ?_
      refine s1 23 120 5 rfl rfl rfl rfl rfl rfl (by first | trivial | omega | (simp only [List.length_map, List.length_append, List.length_cons, List.length_nil] at *; omega)) ?_
      refine s1 18 128 6 rfl rfl rfl rfl rfl rfl trivial ?_
      refine e1 136 rfl ?_
      refine keep [0, 1, 18] rfl ?_
      refine q1 rfl (fun hc3 => ?_) (fun hc3 => ?_)
      · skip
        try simp only [decide_eq_true_eq, decide_eq_false_iff_not, Bool.not_eq_true', Bool.not_eq_false', beq_iff_eq, bne_iff_ne, beq_eq_false_iff_ne, Bool.and_eq_true, Bool.or_eq_true, Bool.and_eq_false_iff, Bool.or_eq_false_iff, ge_iff_le, gt_iff_lt, Int.not_lt, Int.not_le, ne_eq, Decidable.not_not, bne_eq_false_iff_eq] at hc3
        refine r1 ?_
        refine s1 4 136 1 rfl rfl rfl rfl rfl rfl trivial ?_
        refine s1 5 144 2 rfl rfl rfl rfl rfl rfl trivial ?_
        refine e1 152 rfl ?_
        refine keep [4, 5] rfl ?_
        refine nilv 4 1 (intsF []) rfl ?_
        refine W_ret ?_
        refine br ?_
        refine tr ?_
        exact out2 4 5 (intsV (qjoin a b).1) (SV.i (qjoin a b).2) (π := []) (hout := []) Try.results11 rfl rfl (by rw [qj_size hg1_13 hc1 (by omega)]; rfl) (by rw [qj_size hg1_13 hc1 (by omega)]; rfl) rfl rfl trivial ⟨rfl, rfl⟩
      · skip
        try simp only [decide_eq_true_eq, decide_eq_false_iff_not, Bool.not_eq_true', Bool.not_eq_false', beq_iff_eq, bne_iff_ne, beq_eq_false_iff_ne, Bool.and_eq_true, Bool.or_eq_true, Bool.and_eq_false_iff, Bool.or_eq_false_iff, ge_iff_le, gt_iff_lt, Int.not_lt, Int.not_le, ne_eq, Decidable.not_not, bne_eq_false_iff_eq] at hc3
        refine W_skip ?_
        refine bn ?_
        refine tn ?_
        have hA := hg1_13
        have hB := hc1
        have hL : a.length = b.length := (by omega)
        have hA2 := cnt_len hA
        have hB2 := cnt_len hB
        refine r1 ?_
        refine s1 24 136 1 rfl rfl rfl rfl rfl rfl trivial ?_
        refine c1 (clone_any a (by omega) (by omega)) [] [144] 25 144 2 rfl rfl rfl rfl rfl rfl rfl rfl Try.func28 rfl rfl rfl rfl trivial rfl rfl ?_
        refine s1 6 152 3 rfl rfl rfl rfl rfl rfl trivial ?_
        refine e1 160 rfl ?_
        refine keep [1, 6] rfl ?_
        refine W_seq ?_
        refine r1 ?_
        refine s1 26 160 1 rfl rfl rfl rfl rfl rfl trivial ?_
        refine s1 27 168 2 rfl rfl rfl rfl rfl rfl (by first | trivial | omega | (simp only [List.length_map, List.length_append, List.length_cons, List.length_nil] at *; omega)) ?_
        refine s1 28 176 3 rfl rfl rfl rfl rfl rfl trivial ?_
        refine e1 184 rfl ?_
        refine keep [6, 26, 27, 28] rfl ?_
        refine W_block ?_
        refine loop (α := Nat) 1 (fun n => [(6, .sl 0 0 a.length), (26, intsV b), (27, SV.i b.length), (28, SV.i n)]) (fun n => [some (.rows 3 1 a.length (mixF a b n))]) (fun n => n ≤ b.length) (fun n => b.length - n) (0) [144] (fun _ => rfl) (Nat.zero_le _) rfl ⟨rfl, rfl, rfl, rfl, trivial⟩ ⟨rfl, trivial⟩ (fun n hx => ?_)
        refine r1 ?_
        refine s1 29 1 1 rfl rfl rfl rfl rfl rfl (by first | trivial | omega | (simp only [List.length_map, List.length_append, List.length_cons, List.length_nil] at *; omega)) ?_
        refine e1 9 rfl ?_
        refine keep [6, 26, 27, 28, 29] rfl ?_
        refine W_seq ?_
        refine q1 rfl (fun hc7 => ?_) (fun hc7 => ?_)
        · skip
          try simp only [decide_eq_true_eq, decide_eq_false_iff_not, Bool.not_eq_true', Bool.not_eq_false', beq_iff_eq, bne_iff_ne, beq_eq_false_iff_ne, Bool.and_eq_true, Bool.or_eq_true, Bool.and_eq_false_iff, Bool.or_eq_false_iff, ge_iff_le, gt_iff_lt, Int.not_lt, Int.not_le, ne_eq, Decidable.not_not, bne_eq_false_iff_eq] at hc7
          refine W_skip ?_
          refine tn ?_
          refine W_seq ?_
          refine W_block ?_
          refine r1 ?_
          refine s1 30 9 1 rfl rfl rfl rfl rfl rfl trivial ?_
          refine s1 31 17 2 rfl rfl rfl rfl rfl rfl (by first | trivial | omega | (simp only [List.length_map, List.length_append, List.length_cons, List.length_nil] at *; omega)) ?_
          refine s1 32 25 3 rfl rfl rfl rfl rfl rfl (by first | trivial | omega | (simp only [List.length_map, List.length_append, List.length_cons, List.length_nil] at *; omega)) ?_
          refine s1 7 33 4 rfl rfl rfl rfl rfl rfl trivial ?_
          refine s1 8 41 5 rfl rfl rfl rfl rfl rfl trivial ?_
          refine e1 49 rfl ?_
          refine keep [6, 7, 8, 26, 27, 28] rfl ?_
          refine r0 ?_
          refine s1 33 49 1 rfl rfl rfl rfl rfl rfl trivial ?_
          refine s1 34 57 2 rfl rfl rfl rfl rfl rfl trivial ?_
          refine s1 35 65 3 rfl rfl rfl rfl rfl rfl (by omega) ?_
          refine s1 36 73 4 rfl rfl rfl rfl rfl rfl (by first | trivial | omega | (simp only [List.length_map, List.length_append, List.length_cons, List.length_nil] at *; omega)) ?_
          refine s1 37 81 5 rfl rfl rfl rfl rfl rfl trivial ?_
          refine sA 38 89 6 rfl rfl rfl rfl rfl rfl rfl rfl rfl (by have h1 := cnt_at hA (show n < a.length by omega); have h2 := cnt_at hB (show n < b.length by omega); simp only [Int.toNat_natCast, Nat.zero_add]; unfold inRange; split <;> omega) ?_
          refine s1 39 97 7 rfl rfl rfl rfl rfl rfl (by first | trivial | omega | (simp only [List.length_map, List.length_append, List.length_cons, List.length_nil] at *; omega)) ?_
          refine s0 105 8 rfl rfl rfl rfl rfl (by omega) ?_
          refine e1 113 rfl ?_
          refine bn ?_
          refine tn ?_
          refine rowsc 0 a.length (mixF a b (n + 1)) rfl rfl (fun i c hi hc => by simp only [Int.toNat_natCast, Nat.zero_add]; exact mix_step a b n (by simp) i c hc) ?_
          refine r0 ?_
          refine sA 40 113 1 rfl rfl rfl rfl rfl rfl rfl rfl rfl (by unfold inRange; omega) ?_
          refine s1 28 121 2 rfl rfl rfl rfl rfl rfl trivial ?_
          refine e1 129 rfl ?_
          refine tn ?_
          exact again (n + 1) [0] (by omega) (by omega) rfl ⟨rfl, rfl, rfl, rfl, trivial⟩ ⟨rfl, trivial⟩
        · skip
          try simp only [decide_eq_true_eq, decide_eq_false_iff_not, Bool.not_eq_true', Bool.not_eq_false', beq_iff_eq, bne_iff_ne, beq_eq_false_iff_ne, Bool.and_eq_true, Bool.or_eq_true, Bool.and_eq_false_iff, Bool.or_eq_false_iff, ge_iff_le, gt_iff_lt, Int.not_lt, Int.not_le, ne_eq, Decidable.not_not, bne_eq_false_iff_eq] at hc7
          refine W_exit ?_
          refine tx ?_
          refine tx ?_
          refine bx ?_
          refine tn ?_
          refine W_seq ?_
          obtain rfl : n = b.length := (by omega)
          refine rowsc 0 a.length (intsF (sums a b)) rfl rfl (fun i c hi hc => by rw [← hL]; exact mix_sums a b i c hi) ?_
          refine freeze 6 0 a.length rfl rfl (Nat.le_refl _) ?_
          refine vecc 6 (sums a b).length (intsF (sums a b)) rfl (by rw [sums_len]) (fun i c hi hc => rfl) ?_
          refine r1 ?_
          refine s1 41 9 1 rfl rfl rfl rfl rfl rfl trivial ?_
          refine c1 (counted_any (sums a b) (by rw [sums_len]; omega)) [] [] 42 17 2 rfl rfl rfl rfl rfl rfl rfl rfl Try.func27 rfl rfl rfl rfl trivial rfl rfl ?_
          refine s1 43 25 3 rfl rfl rfl rfl rfl rfl trivial ?_
          refine e1 33 rfl ?_
          refine keep [6, 43] rfl ?_
          refine q1 rfl (fun hc11 => ?_) (fun hc11 => ?_)
          · skip
            try simp only [decide_eq_true_eq, decide_eq_false_iff_not, Bool.not_eq_true', Bool.not_eq_false', beq_iff_eq, bne_iff_ne, beq_eq_false_iff_ne, Bool.and_eq_true, Bool.or_eq_true, Bool.and_eq_false_iff, Bool.or_eq_false_iff, ge_iff_le, gt_iff_lt, Int.not_lt, Int.not_le, ne_eq, Decidable.not_not, bne_eq_false_iff_eq] at hc11
            refine r1 ?_
            refine s1 4 33 1 rfl rfl rfl rfl rfl rfl trivial ?_
            refine s1 5 41 2 rfl rfl rfl rfl rfl rfl trivial ?_
            refine e1 49 rfl ?_
            refine keep [4, 5] rfl ?_
            refine nilv 4 1 (intsF []) rfl ?_
            refine W_ret ?_
            refine tr ?_
            exact out2 4 5 (intsV (qjoin a b).1) (SV.i (qjoin a b).2) (π := []) (hout := []) Try.results11 rfl rfl (by rw [qj_over hA hB hL hc11]; rfl) (by rw [qj_over hA hB hL hc11]; rfl) rfl rfl trivial ⟨rfl, rfl⟩
          · skip
            try simp only [decide_eq_true_eq, decide_eq_false_iff_not, Bool.not_eq_true', Bool.not_eq_false', beq_iff_eq, bne_iff_ne, beq_eq_false_iff_ne, Bool.and_eq_true, Bool.or_eq_true, Bool.and_eq_false_iff, Bool.or_eq_false_iff, ge_iff_le, gt_iff_lt, Int.not_lt, Int.not_le, ne_eq, Decidable.not_not, bne_eq_false_iff_eq] at hc11
            refine W_skip ?_
            refine tn ?_
            refine r1 ?_
            refine s1 44 33 1 rfl rfl rfl rfl rfl rfl trivial ?_
            refine s1 4 41 2 rfl rfl rfl rfl rfl rfl trivial ?_
            refine s1 5 49 3 rfl rfl rfl rfl rfl rfl trivial ?_
            refine e1 57 rfl ?_
            refine keep [4, 5] rfl ?_
            refine W_ret ?_
            exact out2 4 5 (intsV (qjoin a b).1) (SV.i (qjoin a b).2) (π := []) (hout := []) Try.results11 rfl rfl (by rw [qj_ok hA hB hL hc11]; rfl) (by rw [qj_ok hA hB hL hc11]; rfl) rfl rfl trivial ⟨rfl, rfl⟩

theorem refJoin_any (a b : List Int) (ha : a.length ≤ 9223372036854775807) (hb : b.length ≤ 9223372036854775807) : Spec Try.prog G0 12 [intsV a, intsV b] [] (fun r ho => r = SV.tup [intsV (qjoin a b).1, SV.i (qjoin a b).2] ∧ ho = []) := by
  refine start 50 0 Try.func12 rfl rfl rfl rfl ?_
  refine r1 ?_
  refine s1 4 0 1 rfl rfl rfl rfl rfl rfl trivial ?_
  refine s1 5 8 2 rfl rfl rfl rfl rfl rfl trivial ?_
  refine e1 16 rfl ?_
  refine keep [0, 1] rfl ?_
  refine W_seq ?_
  refine r1 ?_
  refine s1 8 16 1 rfl rfl rfl rfl rfl rfl trivial ?_
  refine c1 (countsMay_any a ha) [] [] 9 24 2 rfl rfl rfl rfl rfl rfl rfl rfl Try.func29 rfl rfl rfl rfl trivial rfl rfl ?_
  refine s1 10 32 3 rfl rfl rfl rfl rfl rfl trivial ?_
  refine s1 11 40 4 rfl rfl rfl rfl rfl rfl trivial ?_
  refine ask 11 rfl (fun hg1_11 => ?_) (fun hg1_11 => ?_)
  · skip
    try simp only [decide_eq_true_eq, decide_eq_false_iff_not, Bool.not_eq_true', Bool.not_eq_false', beq_iff_eq, bne_iff_ne, beq_eq_false_iff_ne, Bool.and_eq_true, Bool.or_eq_true, Bool.and_eq_false_iff, Bool.or_eq_false_iff, ge_iff_le, gt_iff_lt, Int.not_lt, Int.not_le, ne_eq, Decidable.not_not, bne_eq_false_iff_eq] at hg1_11
    refine g0 3 false 11 12 5 rfl rfl rfl rfl rfl rfl ?_
    refine g0 3 false 11 13 6 rfl rfl rfl rfl rfl rfl ?_
    refine g0 3 false 11 14 7 rfl rfl rfl rfl rfl rfl ?_
    refine s1 15 72 8 rfl rfl rfl rfl rfl rfl trivial ?_
    refine e1 80 rfl ?_
    refine keep [0, 1, 15] rfl ?_
    refine q1 rfl (fun hc1 => ?_) (fun hc1 => ?_)
    · skip
      try simp only [decide_eq_true_eq, decide_eq_false_iff_not, Bool.not_eq_true', Bool.not_eq_false', beq_iff_eq, bne_iff_ne, beq_eq_false_iff_ne, Bool.and_eq_true, Bool.or_eq_true, Bool.and_eq_false_iff, Bool.or_eq_false_iff, ge_iff_le, gt_iff_lt, Int.not_lt, Int.not_le, ne_eq, Decidable.not_not, bne_eq_false_iff_eq] at hc1
      refine r1 ?_
      refine s1 4 80 1 rfl rfl rfl rfl rfl rfl trivial ?_
      refine s1 5 88 2 rfl rfl rfl rfl rfl rfl trivial ?_
      refine e1 96 rfl ?_
      refine keep [4, 5] rfl ?_
      refine nilv 4 1 (intsF []) rfl ?_
      refine W_ret ?_
      refine tr ?_
      exact out2 4 5 (intsV (qjoin a b).1) (SV.i (qjoin a b).2) (π := []) (hout := []) Try.results12 rfl rfl (by rw [qj_form (by simp [*])]; rfl) (by rw [qj_form (by simp [*])]; rfl) rfl rfl trivial ⟨rfl, rfl⟩
    · skip
      exact absurd hc1 (by decide)
  · skip
    try simp only [decide_eq_true_eq, decide_eq_false_iff_not, Bool.not_eq_true', Bool.not_eq_false', beq_iff_eq, bne_iff_ne, beq_eq_false_iff_ne, Bool.and_eq_true, Bool.or_eq_true, Bool.and_eq_false_iff, Bool.or_eq_false_iff, ge_iff_le, gt_iff_lt, Int.not_lt, Int.not_le, ne_eq, Decidable.not_not, bne_eq_false_iff_eq] at hg1_11
    refine g1 3 false 11 12 5 rfl rfl rfl rfl rfl ?_
    refine s1 12 48 5 rfl rfl rfl rfl rfl rfl trivial ?_
    refine g1 3 false 11 13 6 rfl rfl rfl rfl rfl ?_
    refine c1 (countsMay_any b hb) [] [] 13 56 6 rfl rfl rfl rfl rfl rfl rfl rfl Try.func29 rfl rfl rfl rfl trivial rfl rfl ?_
    refine g1 3 false 11 14 7 rfl rfl rfl rfl rfl ?_
    refine s1 14 64 7 rfl rfl rfl rfl rfl rfl trivial ?_
    refine s1 15 72 8 rfl rfl rfl rfl rfl rfl trivial ?_
    refine e1 80 rfl ?_
    refine keep [0, 1, 15] rfl ?_
    refine q1 rfl (fun hc1 => ?_) (fun hc1 => ?_)
    · skip
      try simp only [decide_eq_true_eq, decide_eq_false_iff_not, Bool.not_eq_true', Bool.not_eq_false', beq_iff_eq, bne_iff_ne, beq_eq_false_iff_ne, Bool.and_eq_true, Bool.or_eq_true, Bool.and_eq_false_iff, Bool.or_eq_false_iff, ge_iff_le, gt_iff_lt, Int.not_lt, Int.not_le, ne_eq, Decidable.not_not, bne_eq_false_iff_eq] at hc1
      refine r1 ?_
      refine s1 4 80 1 rfl rfl rfl rfl rfl rfl trivial ?_
      refine s1 5 88 2 rfl rfl rfl rfl rfl rfl trivial ?_
      refine e1 96 rfl ?_
      refine keep [4, 5] rfl ?_
      refine nilv 4 1 (intsF []) rfl ?_
      refine W_ret ?_
      refine tr ?_
      exact out2 4 5 (intsV (qjoin a b).1) (SV.i (qjoin a b).2) (π := []) (hout := []) Try.results12 rfl rfl (by rw [qj_form (by simp [*])]; rfl) (by rw [qj_form (by simp [*])]; rfl) rfl rfl trivial ⟨rfl, rfl⟩
    · skip
      try simp only [decide_eq_true_eq, decide_eq_false_iff_not, Bool.not_eq_true', Bool.not_eq_false', beq_iff_eq, bne_iff_ne, beq_eq_false_iff_ne, Bool.and_eq_true, Bool.or_eq_true, Bool.and_eq_false_iff, Bool.or_eq_false_iff, ge_iff_le, gt_iff_lt, Int.not_lt, Int.not_le, ne_eq, Decidable.not_not, bne_eq_false_iff_eq] at hc1
      refine W_skip ?_
      refine tn ?_
      refine W_seq ?_
      refine r1 ?_
      refine s1 16 80 1 rfl rfl rfl rfl rfl rfl trivial ?_
      refine s1 17 88 2 rfl rfl rfl rfl rfl rfl (by first | trivial | omega | (simp only [List.length_map, List.length_append, List.length_cons, List.length_nil] at *; omega)) ?_
      refine s1 18 96 3 rfl rfl rfl rfl rfl rfl trivial ?_
      refine s1 19 104 4 rfl rfl rfl rfl rfl rfl (by first | trivial | omega | (simp only [List.length_map, List.length_append, List.length_cons, List.length_nil] at *; omega)) ?_
      refine s1 20 112 5 rfl rfl rfl rfl rfl rfl (by first | trivial | omega | (simp only [List.length_map, List.length_append, List.length_cons, List.length_nil] at *; omega)) ?_
      refine e1 120 rfl ?_
      refine keep [0, 1, 20] rfl ?_
      refine q1 rfl (fun hc3 => ?_) (fun hc3 => ?_)
      · skip
        try simp only [decide_eq_true_eq, decide_eq_false_iff_not, Bool.not_eq_true', Bool.not_eq_false', beq_iff_eq, bne_iff_ne, beq_eq_false_iff_ne, Bool.and_eq_true, Bool.or_eq_true, Bool.and_eq_false_iff, Bool.or_eq_false_iff, ge_iff_le, gt_iff_lt, Int.not_lt, Int.not_le, ne_eq, Decidable.not_not, bne_eq_false_iff_eq] at hc3
        refine r1 ?_
        refine s1 4 120 1 rfl rfl rfl rfl rfl rfl trivial ?_
        refine s1 5 128 2 rfl rfl rfl rfl rfl rfl trivial ?_
        refine e1 136 rfl ?_
        refine keep [4, 5] rfl ?_
        refine nilv 4 1 (intsF []) rfl ?_
        refine W_ret ?_
        refine tr ?_
        exact out2 4 5 (intsV (qjoin a b).1) (SV.i (qjoin a b).2) (π := []) (hout := []) Try.results12 rfl rfl (by rw [qj_size hg1_11 hc1 (by omega)]; rfl) (by rw [qj_size hg1_11 hc1 (by omega)]; rfl) rfl rfl trivial ⟨rfl, rfl⟩
      · skip
        try simp only [decide_eq_true_eq, decide_eq_false_iff_not, Bool.not_eq_true', Bool.not_eq_false', beq_iff_eq, bne_iff_ne, beq_eq_false_iff_ne, Bool.and_eq_true, Bool.or_eq_true, Bool.and_eq_false_iff, Bool.or_eq_false_iff, ge_iff_le, gt_iff_lt, Int.not_lt, Int.not_le, ne_eq, Decidable.not_not, bne_eq_false_iff_eq] at hc3
        refine W_skip ?_
        refine tn ?_
        have hA := hg1_11
        have hB := hc1
        have hL : a.length = b.length := (by omega)
        have hA2 := cnt_len hA
        have hB2 := cnt_len hB
        refine r1 ?_
        refine s1 6 120 1 rfl rfl rfl rfl rfl rfl trivial ?_
        refine e1 128 rfl ?_
        refine keep [0, 1, 6] rfl ?_
        refine W_seq ?_
        refine ghostly 6 3 1 (mixF a b 0) rfl ?_
        refine r1 ?_
        refine s1 21 136 1 rfl rfl rfl rfl rfl rfl trivial ?_
        refine s1 22 144 2 rfl rfl rfl rfl rfl rfl (by first | trivial | omega | (simp only [List.length_map, List.length_append, List.length_cons, List.length_nil] at *; omega)) ?_
        refine s1 23 152 3 rfl rfl rfl rfl rfl rfl trivial ?_
        refine e1 160 rfl ?_
        refine keep [0, 1, 6, 22, 23] rfl ?_
        refine W_block ?_
        refine loop (α := Nat) 1 (fun n => [(0, intsV a), (1, intsV b), (6, .sl 0 0 n), (22, SV.i a.length), (23, SV.i n)]) (fun n => [some (.rows 3 1 n (mixF a b n))]) (fun n => n ≤ a.length ∧ ∀ j, j < n → a.getD j 0 + b.getD j 0 ≤ 1048576) (fun n => a.length - n) (0) [128] (fun _ => rfl) ⟨Nat.zero_le _, fun j hj => by omega⟩ rfl ⟨rfl, rfl, rfl, rfl, rfl, trivial⟩ ⟨rfl, trivial⟩ (fun n hx => ?_)
        obtain ⟨hn, hno⟩ := hx
        refine r1 ?_
        refine s1 24 1 1 rfl rfl rfl rfl rfl rfl (by first | trivial | omega | (simp only [List.length_map, List.length_append, List.length_cons, List.length_nil] at *; omega)) ?_
        refine e1 9 rfl ?_
        refine keep [0, 1, 6, 22, 23, 24] rfl ?_
        refine W_seq ?_
        refine q1 rfl (fun hc7 => ?_) (fun hc7 => ?_)
        · skip
          try simp only [decide_eq_true_eq, decide_eq_false_iff_not, Bool.not_eq_true', Bool.not_eq_false', beq_iff_eq, bne_iff_ne, beq_eq_false_iff_ne, Bool.and_eq_true, Bool.or_eq_true, Bool.and_eq_false_iff, Bool.or_eq_false_iff, ge_iff_le, gt_iff_lt, Int.not_lt, Int.not_le, ne_eq, Decidable.not_not, bne_eq_false_iff_eq] at hc7
          refine W_skip ?_
          refine tn ?_
          refine W_seq ?_
          refine W_block ?_
          refine r1 ?_
          refine s1 25 9 1 rfl rfl rfl rfl rfl rfl trivial ?_
          refine s1 7 17 2 rfl rfl rfl rfl rfl rfl trivial ?_
          refine e1 25 rfl ?_
          refine keep [0, 1, 6, 7, 22, 23] rfl ?_
          refine W_seq ?_
          refine rd1 rfl ?_
          refine d1 26 25 1 rfl rfl rfl rfl rfl rfl trivial ?_
          refine d1 27 33 2 rfl rfl rfl rfl rfl rfl trivial ?_
          refine d1 28 41 3 rfl rfl rfl rfl rfl rfl (by first | trivial | omega | (simp only [List.length_map, List.length_append, List.length_cons, List.length_nil] at *; omega)) ?_
          refine d1 29 49 4 rfl rfl rfl rfl rfl rfl (by first | trivial | omega | (simp only [List.length_map, List.length_append, List.length_cons, List.length_nil] at *; omega)) ?_
          refine d1 30 57 5 rfl rfl rfl rfl rfl rfl trivial ?_
          refine d1 31 65 6 rfl rfl rfl rfl rfl rfl trivial ?_
          refine d1 32 73 7 rfl rfl rfl rfl rfl rfl (by first | trivial | omega | (simp only [List.length_map, List.length_append, List.length_cons, List.length_nil] at *; omega)) ?_
          refine d1 33 81 8 rfl rfl rfl rfl rfl rfl (by first | trivial | omega | (simp only [List.length_map, List.length_append, List.length_cons, List.length_nil] at *; omega)) ?_
          refine dA 34 89 9 rfl rfl rfl rfl rfl rfl rfl rfl rfl (by have h1 := cnt_at hA (show n < a.length by omega); have h2 := cnt_at hB (show n < b.length by omega); simp only [Int.toNat_natCast] at *; unfold inRange; omega) ?_
          refine d1 35 97 10 rfl rfl rfl rfl rfl rfl (by first | trivial | omega | (simp only [List.length_map, List.length_append, List.length_cons, List.length_nil] at *; omega)) ?_
          refine de1 105 rfl (by kernel_rfl) ?_
          refine keep [0, 1, 6, 7, 22, 23, 35] rfl ?_
          refine q1 rfl (fun hc9 => ?_) (fun hc9 => ?_)
          · skip
            try simp only [decide_eq_true_eq, decide_eq_false_iff_not, Bool.not_eq_true', Bool.not_eq_false', beq_iff_eq, bne_iff_ne, beq_eq_false_iff_ne, Bool.and_eq_true, Bool.or_eq_true, Bool.and_eq_false_iff, Bool.or_eq_false_iff, ge_iff_le, gt_iff_lt, Int.not_lt, Int.not_le, ne_eq, Decidable.not_not, bne_eq_false_iff_eq] at hc9
            refine r1 ?_
            refine s1 4 105 1 rfl rfl rfl rfl rfl rfl trivial ?_
            refine s1 5 113 2 rfl rfl rfl rfl rfl rfl trivial ?_
            refine e1 121 rfl ?_
            refine keep [4, 5] rfl ?_
            refine nilv 4 1 (intsF []) rfl ?_
            refine W_ret ?_
            refine tr ?_
            refine br ?_
            refine tr ?_
            refine tr ?_
            refine br ?_
            refine tr ?_
            exact out2 4 5 (intsV (qjoin a b).1) (SV.i (qjoin a b).2) (π := []) (hout := []) Try.results12 rfl rfl (by rw [qj_over hA hB hL (sums_over (n := n) (by omega) hc9)]; rfl) (by rw [qj_over hA hB hL (sums_over (n := n) (by omega) hc9)]; rfl) rfl rfl trivial ⟨rfl, rfl⟩
          · skip
            try simp only [decide_eq_true_eq, decide_eq_false_iff_not, Bool.not_eq_true', Bool.not_eq_false', beq_iff_eq, bne_iff_ne, beq_eq_false_iff_ne, Bool.and_eq_true, Bool.or_eq_true, Bool.and_eq_false_iff, Bool.or_eq_false_iff, ge_iff_le, gt_iff_lt, Int.not_lt, Int.not_le, ne_eq, Decidable.not_not, bne_eq_false_iff_eq] at hc9
            refine W_skip ?_
            refine tn ?_
            refine rd0 rfl ?_
            refine d1 36 105 1 rfl rfl rfl rfl rfl rfl trivial ?_
            refine d1 37 113 2 rfl rfl rfl rfl rfl rfl trivial ?_
            refine d1 38 121 3 rfl rfl rfl rfl rfl rfl trivial ?_
            refine d1 39 129 4 rfl rfl rfl rfl rfl rfl (by first | trivial | omega | (simp only [List.length_map, List.length_append, List.length_cons, List.length_nil] at *; omega)) ?_
            refine d1 40 137 5 rfl rfl rfl rfl rfl rfl (by first | trivial | omega | (simp only [List.length_map, List.length_append, List.length_cons, List.length_nil] at *; omega)) ?_
            refine d1 41 145 6 rfl rfl rfl rfl rfl rfl trivial ?_
            refine d1 42 153 7 rfl rfl rfl rfl rfl rfl trivial ?_
            refine d1 43 161 8 rfl rfl rfl rfl rfl rfl (by first | trivial | omega | (simp only [List.length_map, List.length_append, List.length_cons, List.length_nil] at *; omega)) ?_
            refine d1 44 169 9 rfl rfl rfl rfl rfl rfl (by first | trivial | omega | (simp only [List.length_map, List.length_append, List.length_cons, List.length_nil] at *; omega)) ?_
            refine dA 45 177 10 rfl rfl rfl rfl rfl rfl rfl rfl rfl (by have h1 := cnt_at hA (show n < a.length by omega); have h2 := cnt_at hB (show n < b.length by omega); simp only [Int.toNat_natCast] at *; unfold inRange; omega) ?_
            refine d1 46 185 11 rfl rfl rfl rfl rfl rfl trivial ?_
            refine d1 47 193 12 rfl rfl rfl rfl rfl rfl ⟨by omega, trivial, (by show (n + 1) * 8 ≤ 140737488355328; omega), (by simp only [maxLen]; omega)⟩ ?_
            refine d1 6 201 13 rfl rfl rfl rfl rfl rfl trivial ?_
            refine de1 209 rfl (by kernel_rfl) ?_
            refine bn ?_
            refine tn ?_
            refine rowsc 193 (n + 1) (mixF a b (n + 1)) rfl rfl (fun i c hi hc => cat_step a b n (by simp only [Int.toNat_natCast]) i c hi hc) ?_
            refine r0 ?_
            refine sA 48 209 1 rfl rfl rfl rfl rfl rfl rfl rfl rfl (by unfold inRange; omega) ?_
            refine s1 23 217 2 rfl rfl rfl rfl rfl rfl trivial ?_
            refine e1 225 rfl ?_
            refine tn ?_
            exact again (n + 1) [193] ⟨by omega, fun j hj => by by_cases e : j = n; (subst e; exact hc9); exact hno j (by omega)⟩ (by omega) rfl ⟨rfl, rfl, rfl, rfl, rfl, trivial⟩ ⟨rfl, trivial⟩
        · skip
          try simp only [decide_eq_true_eq, decide_eq_false_iff_not, Bool.not_eq_true', Bool.not_eq_false', beq_iff_eq, bne_iff_ne, beq_eq_false_iff_ne, Bool.and_eq_true, Bool.or_eq_true, Bool.and_eq_false_iff, Bool.or_eq_false_iff, ge_iff_le, gt_iff_lt, Int.not_lt, Int.not_le, ne_eq, Decidable.not_not, bne_eq_false_iff_eq] at hc7
          refine W_exit ?_
          refine tx ?_
          refine tx ?_
          refine bx ?_
          refine tn ?_
          obtain rfl : n = a.length := (by omega)
          refine rowsc 0 a.length (intsF (sums a b)) rfl rfl (fun i c hi hc => mix_sums a b i c hi) ?_
          refine freeze 6 0 a.length rfl rfl (Nat.le_refl _) ?_
          refine vecc 6 (sums a b).length (intsF (sums a b)) rfl (by rw [sums_len]) (fun i c hi hc => rfl) ?_
          refine r1 ?_
          refine s1 49 9 1 rfl rfl rfl rfl rfl rfl trivial ?_
          refine s1 4 17 2 rfl rfl rfl rfl rfl rfl trivial ?_
          refine s1 5 25 3 rfl rfl rfl rfl rfl rfl trivial ?_
          refine e1 33 rfl ?_
          refine keep [4, 5] rfl ?_
          refine W_ret ?_
          exact out2 4 5 (intsV (qjoin a b).1) (SV.i (qjoin a b).2) (π := []) (hout := []) Try.results12 rfl rfl (by rw [qj_ok hA hB hL (sums_ok hA hB hL (fun j hj => hno j hj))]; rfl) (by rw [qj_ok hA hB hL (sums_ok hA hB hL (fun j hj => hno j hj))]; rfl) rfl rfl trivial ⟨rfl, rfl⟩


theorem qjoin_len (a b : List Int) : (qjoin a b).1.length ≤ 9223372036854775807 := by
  unfold qjoin
  split
  · next h =>
    have := cnt_len h.1
    split
    · split
      · rw [sums_len]; omega
      · simp
    · simp
  · simp

theorem lawJoin_any (a b : List Int) (ha : a.length ≤ 9223372036854775807) (hb : b.length ≤ 9223372036854775807) : Spec Try.prog G0 4 [intsV a, intsV b] [] (fun r _ => r = SV.b true) := by
  refine start 29 0 Try.func4 rfl rfl rfl rfl ?_
  refine r1 ?_
  refine s1 4 0 1 rfl rfl rfl rfl rfl rfl trivial ?_
  refine e1 8 rfl ?_
  refine keep [0, 1] rfl ?_
  refine r1 ?_
  refine s1 10 8 1 rfl rfl rfl rfl rfl rfl trivial ?_
  refine s1 11 16 2 rfl rfl rfl rfl rfl rfl trivial ?_
  refine c1 (join_any a b ha hb) [] [] 12 24 3 rfl rfl rfl rfl rfl rfl rfl rfl Try.func11 rfl rfl rfl rfl trivial rfl rfl ?_
  refine s1 9 32 4 rfl rfl rfl rfl rfl rfl trivial ?_
  refine s1 13 40 5 rfl rfl rfl rfl rfl rfl trivial ?_
  refine s1 14 48 6 rfl rfl rfl rfl rfl rfl trivial ?_
  refine s1 5 56 7 rfl rfl rfl rfl rfl rfl trivial ?_
  refine s1 6 64 8 rfl rfl rfl rfl rfl rfl trivial ?_
  refine e1 72 rfl ?_
  refine keep [0, 1, 5, 6] rfl ?_
  refine r1 ?_
  refine s1 16 72 1 rfl rfl rfl rfl rfl rfl trivial ?_
  refine s1 17 80 2 rfl rfl rfl rfl rfl rfl trivial ?_
  refine c1 (refJoin_any a b ha hb) [] [] 18 88 3 rfl rfl rfl rfl rfl rfl rfl rfl Try.func12 rfl rfl rfl rfl trivial rfl rfl ?_
  refine s1 15 96 4 rfl rfl rfl rfl rfl rfl trivial ?_
  refine s1 19 104 5 rfl rfl rfl rfl rfl rfl trivial ?_
  refine s1 20 112 6 rfl rfl rfl rfl rfl rfl trivial ?_
  refine s1 7 120 7 rfl rfl rfl rfl rfl rfl trivial ?_
  refine s1 8 128 8 rfl rfl rfl rfl rfl rfl trivial ?_
  refine e1 136 rfl ?_
  refine keep [5, 6, 7, 8] rfl ?_
  refine r1 ?_
  refine s1 21 136 1 rfl rfl rfl rfl rfl rfl trivial ?_
  refine s1 22 144 2 rfl rfl rfl rfl rfl rfl trivial ?_
  refine c1 (same_any (qjoin a b).1 (qjoin a b).1 (qjoin_len a b) (qjoin_len a b)) [] [] 23 152 3 rfl rfl rfl rfl rfl rfl rfl rfl Try.func13 rfl rfl rfl rfl trivial rfl rfl ?_
  refine s1 24 160 4 rfl rfl rfl rfl rfl rfl trivial ?_
  refine ask 24 rfl (fun hg3_24 => ?_) (fun hg3_24 => ?_)
  · skip
    try simp only [decide_eq_true_eq, decide_eq_false_iff_not, Bool.not_eq_true', Bool.not_eq_false', beq_iff_eq, bne_iff_ne, beq_eq_false_iff_ne, Bool.and_eq_true, Bool.or_eq_true, Bool.and_eq_false_iff, Bool.or_eq_false_iff, ge_iff_le, gt_iff_lt, Int.not_lt, Int.not_le, ne_eq, Decidable.not_not, bne_eq_false_iff_eq] at hg3_24
    refine g1 3 true 24 25 5 rfl rfl rfl rfl rfl ?_
    refine s1 25 168 5 rfl rfl rfl rfl rfl rfl trivial ?_
    refine g1 3 true 24 26 6 rfl rfl rfl rfl rfl ?_
    refine s1 26 176 6 rfl rfl rfl rfl rfl rfl trivial ?_
    refine g1 3 true 24 27 7 rfl rfl rfl rfl rfl ?_
    refine s1 27 184 7 rfl rfl rfl rfl rfl rfl (by first | trivial | omega | (simp only [List.length_map, List.length_append, List.length_cons, List.length_nil] at *; omega)) ?_
    refine s1 28 192 8 rfl rfl rfl rfl rfl rfl trivial ?_
    refine s1 4 200 9 rfl rfl rfl rfl rfl rfl trivial ?_
    refine e1 208 rfl ?_
    refine keep [4] rfl ?_
    refine W_ret ?_
    exact out1 4 (SV.b true) (π := []) (hout := []) Try.results4 rfl (by first | (simp; done) | (simp; rfl) | (simp [sameB] at *; done)) rfl rfl trivial rfl
  · skip
    try simp only [decide_eq_true_eq, decide_eq_false_iff_not, Bool.not_eq_true', Bool.not_eq_false', beq_iff_eq, bne_iff_ne, beq_eq_false_iff_ne, Bool.and_eq_true, Bool.or_eq_true, Bool.and_eq_false_iff, Bool.or_eq_false_iff, ge_iff_le, gt_iff_lt, Int.not_lt, Int.not_le, ne_eq, Decidable.not_not, bne_eq_false_iff_eq] at hg3_24
    refine g0 3 true 24 25 5 rfl rfl rfl rfl rfl rfl ?_
    refine g0 3 true 24 26 6 rfl rfl rfl rfl rfl rfl ?_
    refine g0 3 true 24 27 7 rfl rfl rfl rfl rfl rfl ?_
    refine s1 28 192 8 rfl rfl rfl rfl rfl rfl trivial ?_
    refine s1 4 200 9 rfl rfl rfl rfl rfl rfl trivial ?_
    refine e1 208 rfl ?_
    refine keep [4] rfl ?_
    refine W_ret ?_
    exact out1 4 (SV.b true) (π := []) (hout := []) Try.results4 rfl (by first | (simp; done) | (simp; rfl) | (simp [sameB] at *; done)) rfl rfl trivial rfl

end Go.Proofs.Ytlhncpbcbpdcfaa.Nice
