/- Indexes of tags that may be: the program's function and the document's. -/
import Derived.Test.YtlhncpbcbpdcfaaTagName
namespace Go.Proofs.Ytlhncpbcbpdcfaa.Nice
open Go
set_option linter.unusedVariables false
set_option linter.unusedSimpArgs false
set_option maxRecDepth 100000
set_option maxHeartbeats 4000000
def geB (a b : ByteArray) : Bool := !Op.bytesLess a.toList b.toList
structure TagOk (l : List TagD) (k : Nat) : Prop where
  key : nameB (l.getD k default).key = true
  val : nameB (l.getD k default).val = true
  asc : 0 < k → geB (l.getD (k - 1) default).key (l.getD k default).key = false
structure SerOk (ss : List (List TagD)) (i : Nat) : Prop where
  len : (ss.getD i []).length ≤ 6
  tag : ∀ k, k < (ss.getD i []).length → TagOk (ss.getD i []) k
  new : ∀ k, k < i → ¬ ss.getD i [] = ss.getD k []
def TagsOk (ss : List (List TagD)) : Prop := ss.length ≤ 40 ∧ ∀ i, i < ss.length → SerOk ss i
structure TagsIn (ss : List (List TagD)) : Prop where
  n : ss.length ≤ 9223372036854775807
  l : ∀ i, (ss.getD i []).length ≤ 9223372036854775807
  k : ∀ i k, ((ss.getD i []).getD k default).key.size ≤ 9223372036854775807
  v : ∀ i k, ((ss.getD i []).getD k default).val.size ≤ 9223372036854775807
theorem firstEq_neg {l : List TagD} {ss : List (List TagD)} {n : Nat} : firstEq l ss n < 0 ↔ ∀ k, k < n → ¬ l = ss.getD k [] := by
  by_cases h : ∀ k, k < n → ¬ l = ss.getD k []
  · rw [firstEq_none h]; exact ⟨fun _ => h, fun _ => by decide⟩
  · constructor
    · intro hn
      exfalso
      have : ∃ k, k < n ∧ l = ss.getD k [] := by
        apply Classical.byContradiction
        intro hh
        exact h fun k hk e => hh ⟨k, hk, e⟩
      unfold firstEq at hn
      split at hn
      · omega
      · next hf =>
        rw [List.find?_range_eq_none] at hf
        obtain ⟨k, hk, e⟩ := this
        have := hf k hk
        rw [Bool.not_eq_true', decide_eq_false_iff_not] at this
        exact this e
    · intro hh; exact absurd hh h

theorem tagsMay_any (ss : List (List TagD)) (hin : TagsIn ss) (p : Bool) (hp : p = true ↔ TagsOk ss) : Spec Try.prog GT 20 [serV ss ss.length] [] (fun r ho => r = SV.b p ∧ ho = []) := by
  refine start 61 0 Try.func20 rfl rfl rfl rfl ?_
  refine r1 ?_
  refine s1 2 0 1 rfl rfl rfl rfl rfl rfl trivial ?_
  refine e1 8 rfl ?_
  refine keep [0] rfl ?_
  refine W_seq ?_
  refine r1 ?_
  refine s1 7 8 1 rfl rfl rfl rfl rfl rfl trivial ?_
  refine s1 8 16 2 rfl rfl rfl rfl rfl rfl (by first | trivial | omega | (simp only [List.length_map, List.length_append, List.length_cons, List.length_nil] at *; omega)) ?_
  refine s1 9 24 3 rfl rfl rfl rfl rfl rfl trivial ?_
  refine e1 32 rfl ?_
  refine keep [0, 7, 8, 9] rfl ?_
  refine W_block ?_
  refine loop (α := Nat) 0 (fun i => [(0, serV ss ss.length), (7, serV ss ss.length), (8, SV.i ss.length), (9, SV.i i)]) (fun i => []) (fun i => i ≤ ss.length ∧ ∀ j, j < i → SerOk ss j) (fun i => ss.length - i) (0) [] (fun _ => rfl) ⟨Nat.zero_le _, fun j hj => by omega⟩ rfl ⟨rfl, rfl, rfl, rfl, trivial⟩ trivial (fun i hx => ?_)
  obtain ⟨hn, hno⟩ := hx
  have hl := hin.l i
  have hln := hin.n
  refine r1 ?_
  refine s1 10 0 1 rfl rfl rfl rfl rfl rfl (by first | trivial | omega | (simp only [List.length_map, List.length_append, List.length_cons, List.length_nil] at *; omega)) ?_
  refine e1 8 rfl ?_
  refine keep [0, 7, 8, 9, 10] rfl ?_
  refine W_seq ?_
  refine q1 rfl (fun hc2 => ?_) (fun hc2 => ?_)
  · skip
    try simp only [decide_eq_true_eq, decide_eq_false_iff_not, Bool.not_eq_true', Bool.not_eq_false', beq_iff_eq, bne_iff_ne, beq_eq_false_iff_ne, Bool.and_eq_true, Bool.or_eq_true, Bool.and_eq_false_iff, Bool.or_eq_false_iff, ge_iff_le, gt_iff_lt, Int.not_lt, Int.not_le, ne_eq, Decidable.not_not, bne_eq_false_iff_eq] at hc2
    refine W_skip ?_
    refine tn ?_
    refine W_seq ?_
    refine W_block ?_
    refine r1 ?_
    refine s1 11 8 1 rfl rfl rfl rfl rfl rfl trivial ?_
    refine s1 12 16 2 rfl rfl rfl rfl rfl rfl (by first | trivial | omega | (simp only [List.length_map, List.length_append, List.length_cons, List.length_nil] at *; omega)) ?_
    refine s1 13 24 3 rfl rfl rfl rfl rfl rfl (by first | trivial | omega | (simp only [List.length_map, List.length_append, List.length_cons, List.length_nil] at *; omega)) ?_
    refine val 13 (tagsV (ss.getD i [])) rfl (by first | rfl | (unfold tagsV; simp only [Int.toNat_natCast, Nat.zero_add]; rfl)) ?_
    refine s1 4 32 4 rfl rfl rfl rfl rfl rfl trivial ?_
    refine s1 3 40 5 rfl rfl rfl rfl rfl rfl trivial ?_
    refine s0 48 6 rfl rfl rfl rfl rfl (by first | trivial | omega | (simp only [List.length_map, List.length_append, List.length_cons, List.length_nil] at *; omega)) ?_
    refine e1 56 rfl ?_
    refine keep [0, 3, 4, 7, 8, 9] rfl ?_
    refine W_seq ?_
    refine r1 ?_
    refine s1 14 56 1 rfl rfl rfl rfl rfl rfl (by first | trivial | omega | (simp only [List.length_map, List.length_append, List.length_cons, List.length_nil] at *; omega)) ?_
    refine s1 15 64 2 rfl rfl rfl rfl rfl rfl (by first | trivial | omega | (simp only [List.length_map, List.length_append, List.length_cons, List.length_nil] at *; omega)) ?_
    refine s1 16 72 3 rfl rfl rfl rfl rfl rfl trivial ?_
    refine e1 80 rfl ?_
    refine keep [0, 3, 4, 7, 8, 9, 14, 15, 16] rfl ?_
    refine W_block ?_
    refine loop (α := Nat) 1 (fun k => [(0, serV ss ss.length), (3, SV.i i), (4, .ptr 0 0 0), (7, serV ss ss.length), (8, SV.i ss.length), (9, SV.i i), (14, tagsV (ss.getD i [])), (15, SV.i (ss.getD i []).length), (16, SV.i k)]) (fun k => [some (.cells 56 1 [tagsV (ss.getD i [])])]) (fun k => k ≤ (ss.getD i []).length ∧ ∀ j, j < k → TagOk (ss.getD i []) j) (fun k => (ss.getD i []).length - k) (0) [32] (fun _ => rfl) ⟨Nat.zero_le _, fun j hj => by omega⟩ rfl ⟨rfl, rfl, rfl, rfl, rfl, rfl, rfl, rfl, rfl, trivial⟩ ⟨rfl, trivial⟩ (fun k hx => ?_)
    obtain ⟨hkn, hser⟩ := hx
    refine r1 ?_
    refine s1 17 1 1 rfl rfl rfl rfl rfl rfl (by first | trivial | omega | (simp only [List.length_map, List.length_append, List.length_cons, List.length_nil] at *; omega)) ?_
    refine e1 9 rfl ?_
    refine keep [0, 3, 4, 7, 8, 9, 14, 15, 16, 17] rfl ?_
    refine W_seq ?_
    refine q1 rfl (fun hc5 => ?_) (fun hc5 => ?_)
    · skip
      try simp only [decide_eq_true_eq, decide_eq_false_iff_not, Bool.not_eq_true', Bool.not_eq_false', beq_iff_eq, bne_iff_ne, beq_eq_false_iff_ne, Bool.and_eq_true, Bool.or_eq_true, Bool.and_eq_false_iff, Bool.or_eq_false_iff, ge_iff_le, gt_iff_lt, Int.not_lt, Int.not_le, ne_eq, Decidable.not_not, bne_eq_false_iff_eq] at hc5
      refine W_skip ?_
      refine tn ?_
      refine W_seq ?_
      refine W_block ?_
      refine r1 ?_
      refine s1 18 9 1 rfl rfl rfl rfl rfl rfl trivial ?_
      refine s1 19 17 2 rfl rfl rfl rfl rfl rfl (by first | trivial | omega | (simp only [List.length_map, List.length_append, List.length_cons, List.length_nil] at *; omega)) ?_
      refine s1 20 25 3 rfl rfl rfl rfl rfl rfl (by first | trivial | omega | (simp only [List.length_map, List.length_append, List.length_cons, List.length_nil] at *; omega)) ?_
      refine s1 6 33 4 rfl rfl rfl rfl rfl rfl trivial ?_
      refine s1 5 41 5 rfl rfl rfl rfl rfl rfl trivial ?_
      refine s0 49 6 rfl rfl rfl rfl rfl (by first | trivial | omega | (simp only [List.length_map, List.length_append, List.length_cons, List.length_nil] at *; omega)) ?_
      refine e1 57 rfl ?_
      refine keep [0, 3, 4, 5, 6, 7, 8, 9, 14, 15, 16] rfl ?_
      refine rd1 rfl ?_
      refine d1 21 57 1 rfl rfl rfl rfl rfl rfl trivial ?_
      refine d1 22 65 2 rfl rfl rfl rfl rfl rfl (by first | trivial | omega | (simp only [List.length_map, List.length_append, List.length_cons, List.length_nil] at *; omega)) ?_
      refine dc1 (name_any ((ss.getD i []).getD k default).key (hin.k i k)) [] [] 23 73 3 rfl rfl rfl rfl rfl rfl rfl rfl Try.func40 rfl rfl rfl rfl trivial rfl rfl ?_
      refine d1 24 81 4 rfl rfl rfl rfl rfl rfl trivial ?_
      refine d1 25 89 5 rfl rfl rfl rfl rfl rfl trivial ?_
      refine ask 25 rfl (fun hg7_25 => ?_) (fun hg7_25 => ?_)
      · skip
        try simp only [decide_eq_true_eq, decide_eq_false_iff_not, Bool.not_eq_true', Bool.not_eq_false', beq_iff_eq, bne_iff_ne, beq_eq_false_iff_ne, Bool.and_eq_true, Bool.or_eq_true, Bool.and_eq_false_iff, Bool.or_eq_false_iff, ge_iff_le, gt_iff_lt, Int.not_lt, Int.not_le, ne_eq, Decidable.not_not, bne_eq_false_iff_eq] at hg7_25
        refine g0 4 false 25 26 6 rfl rfl rfl rfl rfl rfl ?_
        refine g0 4 false 25 27 7 rfl rfl rfl rfl rfl rfl ?_
        refine g0 4 false 25 28 8 rfl rfl rfl rfl rfl rfl ?_
        refine g0 4 false 25 29 9 rfl rfl rfl rfl rfl rfl ?_
        refine d1 30 129 10 rfl rfl rfl rfl rfl rfl trivial ?_
        refine d1 31 137 11 rfl rfl rfl rfl rfl rfl trivial ?_
        refine g0 10 false 31 32 12 rfl rfl rfl rfl rfl rfl ?_
        refine g0 10 false 31 33 13 rfl rfl rfl rfl rfl rfl ?_
        refine g0 10 false 31 34 14 rfl rfl rfl rfl rfl rfl ?_
        refine gz 13 true 34 35 15 rfl rfl rfl rfl rfl rfl ?_
        refine gz 13 true 34 36 16 rfl rfl rfl rfl rfl rfl ?_
        refine gz 13 true 34 37 17 rfl rfl rfl rfl rfl rfl ?_
        refine gz 13 true 34 38 18 rfl rfl rfl rfl rfl rfl ?_
        refine gz 13 true 34 39 19 rfl rfl rfl rfl rfl rfl ?_
        refine gz 13 true 34 40 20 rfl rfl rfl rfl rfl rfl ?_
        refine gz 13 true 34 41 21 rfl rfl rfl rfl rfl rfl ?_
        refine gz 13 true 34 42 22 rfl rfl rfl rfl rfl rfl ?_
        refine gz 13 true 34 43 23 rfl rfl rfl rfl rfl rfl ?_
        refine g0 10 false 31 44 24 rfl rfl rfl rfl rfl rfl ?_
        refine d1 45 249 25 rfl rfl rfl rfl rfl rfl trivial ?_
        refine de1 257 rfl (by kernel_rfl) ?_
        refine keep [0, 3, 4, 7, 8, 9, 14, 15, 16, 45] rfl ?_
        refine q1 rfl (fun hc7 => ?_) (fun hc7 => ?_)
        · skip
          try simp only [decide_eq_true_eq, decide_eq_false_iff_not, Bool.not_eq_true', Bool.not_eq_false', beq_iff_eq, bne_iff_ne, beq_eq_false_iff_ne, Bool.and_eq_true, Bool.or_eq_true, Bool.and_eq_false_iff, Bool.or_eq_false_iff, ge_iff_le, gt_iff_lt, Int.not_lt, Int.not_le, ne_eq, Decidable.not_not, bne_eq_false_iff_eq] at hc7
          refine r1 ?_
          refine s1 2 257 1 rfl rfl rfl rfl rfl rfl trivial ?_
          refine e1 265 rfl ?_
          refine keep [2] rfl ?_
          refine W_ret ?_
          refine br ?_
          refine tr ?_
          refine tr ?_
          refine br ?_
          refine tr ?_
          refine br ?_
          refine tr ?_
          refine tr ?_
          refine br ?_
          refine tr ?_
          exact out1 2 (SV.b p) (π := []) (hout := []) Try.results20 rfl (by have : p = false := (by rw [← Bool.not_eq_true, hp]; rintro ⟨ht0, ht⟩; have hs := ht i (by omega); first | (have := hs.len; omega) | (have hk := hs.tag k (by omega); have h1 := hk.key; have h2 := hk.val; have h3 := hk.asc; first | (have h4 := h3 (by omega); have e := hc7; simp only [show ((k : Int) - 1).toNat = k - 1 from by omega, Int.toNat_natCast, Nat.zero_add] at e; unfold geB at h4; rw [e] at h4; cases h4) | (simp_all; done)) | (have h5 := hs.new; rw [← firstEq_neg] at h5; omega)); rw [this]; rfl) rfl rfl trivial ⟨rfl, rfl⟩
        · skip
          exact absurd hc7 (by decide)
      · skip
        try simp only [decide_eq_true_eq, decide_eq_false_iff_not, Bool.not_eq_true', Bool.not_eq_false', beq_iff_eq, bne_iff_ne, beq_eq_false_iff_ne, Bool.and_eq_true, Bool.or_eq_true, Bool.and_eq_false_iff, Bool.or_eq_false_iff, ge_iff_le, gt_iff_lt, Int.not_lt, Int.not_le, ne_eq, Decidable.not_not, bne_eq_false_iff_eq] at hg7_25
        refine g1 4 false 25 26 6 rfl rfl rfl rfl rfl ?_
        refine d1 26 97 6 rfl rfl rfl rfl rfl rfl trivial ?_
        refine g1 4 false 25 27 7 rfl rfl rfl rfl rfl ?_
        refine d1 27 105 7 rfl rfl rfl rfl rfl rfl (by first | trivial | omega | (simp only [List.length_map, List.length_append, List.length_cons, List.length_nil] at *; omega)) ?_
        refine g1 4 false 25 28 8 rfl rfl rfl rfl rfl ?_
        refine dc1 (name_any ((ss.getD i []).getD k default).val (hin.v i k)) [] [] 28 113 8 rfl rfl rfl rfl rfl rfl rfl rfl Try.func40 rfl rfl rfl rfl trivial rfl rfl ?_
        refine g1 4 false 25 29 9 rfl rfl rfl rfl rfl ?_
        refine d1 29 121 9 rfl rfl rfl rfl rfl rfl trivial ?_
        refine d1 30 129 10 rfl rfl rfl rfl rfl rfl trivial ?_
        refine d1 31 137 11 rfl rfl rfl rfl rfl rfl trivial ?_
        refine ask 31 rfl (fun hg7_31 => ?_) (fun hg7_31 => ?_)
        · skip
          try simp only [decide_eq_true_eq, decide_eq_false_iff_not, Bool.not_eq_true', Bool.not_eq_false', beq_iff_eq, bne_iff_ne, beq_eq_false_iff_ne, Bool.and_eq_true, Bool.or_eq_true, Bool.and_eq_false_iff, Bool.or_eq_false_iff, ge_iff_le, gt_iff_lt, Int.not_lt, Int.not_le, ne_eq, Decidable.not_not, bne_eq_false_iff_eq] at hg7_31
          refine g0 10 false 31 32 12 rfl rfl rfl rfl rfl rfl ?_
          refine g0 10 false 31 33 13 rfl rfl rfl rfl rfl rfl ?_
          refine g0 10 false 31 34 14 rfl rfl rfl rfl rfl rfl ?_
          refine gz 13 true 34 35 15 rfl rfl rfl rfl rfl rfl ?_
          refine gz 13 true 34 36 16 rfl rfl rfl rfl rfl rfl ?_
          refine gz 13 true 34 37 17 rfl rfl rfl rfl rfl rfl ?_
          refine gz 13 true 34 38 18 rfl rfl rfl rfl rfl rfl ?_
          refine gz 13 true 34 39 19 rfl rfl rfl rfl rfl rfl ?_
          refine gz 13 true 34 40 20 rfl rfl rfl rfl rfl rfl ?_
          refine gz 13 true 34 41 21 rfl rfl rfl rfl rfl rfl ?_
          refine gz 13 true 34 42 22 rfl rfl rfl rfl rfl rfl ?_
          refine gz 13 true 34 43 23 rfl rfl rfl rfl rfl rfl ?_
          refine g0 10 false 31 44 24 rfl rfl rfl rfl rfl rfl ?_
          refine d1 45 249 25 rfl rfl rfl rfl rfl rfl trivial ?_
          refine de1 257 rfl (by kernel_rfl) ?_
          refine keep [0, 3, 4, 7, 8, 9, 14, 15, 16, 45] rfl ?_
          refine q1 rfl (fun hc7 => ?_) (fun hc7 => ?_)
          · skip
            try simp only [decide_eq_true_eq, decide_eq_false_iff_not, Bool.not_eq_true', Bool.not_eq_false', beq_iff_eq, bne_iff_ne, beq_eq_false_iff_ne, Bool.and_eq_true, Bool.or_eq_true, Bool.and_eq_false_iff, Bool.or_eq_false_iff, ge_iff_le, gt_iff_lt, Int.not_lt, Int.not_le, ne_eq, Decidable.not_not, bne_eq_false_iff_eq] at hc7
            refine r1 ?_
            refine s1 2 257 1 rfl rfl rfl rfl rfl rfl trivial ?_
            refine e1 265 rfl ?_
            refine keep [2] rfl ?_
            refine W_ret ?_
            refine br ?_
            refine tr ?_
            refine tr ?_
            refine br ?_
            refine tr ?_
            refine br ?_
            refine tr ?_
            refine tr ?_
            refine br ?_
            refine tr ?_
            exact out1 2 (SV.b p) (π := []) (hout := []) Try.results20 rfl (by have : p = false := (by rw [← Bool.not_eq_true, hp]; rintro ⟨ht0, ht⟩; have hs := ht i (by omega); first | (have := hs.len; omega) | (have hk := hs.tag k (by omega); have h1 := hk.key; have h2 := hk.val; have h3 := hk.asc; first | (have h4 := h3 (by omega); have e := hc7; simp only [show ((k : Int) - 1).toNat = k - 1 from by omega, Int.toNat_natCast, Nat.zero_add] at e; unfold geB at h4; rw [e] at h4; cases h4) | (simp_all; done)) | (have h5 := hs.new; rw [← firstEq_neg] at h5; omega)); rw [this]; rfl) rfl rfl trivial ⟨rfl, rfl⟩
          · skip
            exact absurd hc7 (by decide)
        · skip
          try simp only [decide_eq_true_eq, decide_eq_false_iff_not, Bool.not_eq_true', Bool.not_eq_false', beq_iff_eq, bne_iff_ne, beq_eq_false_iff_ne, Bool.and_eq_true, Bool.or_eq_true, Bool.and_eq_false_iff, Bool.or_eq_false_iff, ge_iff_le, gt_iff_lt, Int.not_lt, Int.not_le, ne_eq, Decidable.not_not, bne_eq_false_iff_eq] at hg7_31
          refine g1 10 false 31 32 12 rfl rfl rfl rfl rfl ?_
          refine d1 32 145 12 rfl rfl rfl rfl rfl rfl trivial ?_
          refine g1 10 false 31 33 13 rfl rfl rfl rfl rfl ?_
          refine d1 33 153 13 rfl rfl rfl rfl rfl rfl (by first | trivial | omega | (simp only [List.length_map, List.length_append, List.length_cons, List.length_nil] at *; omega)) ?_
          refine g1 10 false 31 34 14 rfl rfl rfl rfl rfl ?_
          refine d1 34 161 14 rfl rfl rfl rfl rfl rfl trivial ?_
          refine ask 34 rfl (fun hg7_34 => ?_) (fun hg7_34 => ?_)
          · skip
            try simp only [decide_eq_true_eq, decide_eq_false_iff_not, Bool.not_eq_true', Bool.not_eq_false', beq_iff_eq, bne_iff_ne, beq_eq_false_iff_ne, Bool.and_eq_true, Bool.or_eq_true, Bool.and_eq_false_iff, Bool.or_eq_false_iff, ge_iff_le, gt_iff_lt, Int.not_lt, Int.not_le, ne_eq, Decidable.not_not, bne_eq_false_iff_eq] at hg7_34
            refine g1 13 true 34 35 15 rfl rfl rfl rfl rfl ?_
            refine d1 35 169 15 rfl rfl rfl rfl rfl rfl (by first | trivial | omega | (simp only [List.length_map, List.length_append, List.length_cons, List.length_nil] at *; omega)) ?_
            refine g1 13 true 34 36 16 rfl rfl rfl rfl rfl ?_
            refine d1 36 177 16 rfl rfl rfl rfl rfl rfl trivial ?_
            refine g1 13 true 34 37 17 rfl rfl rfl rfl rfl ?_
            refine dA 37 185 17 rfl rfl rfl rfl rfl rfl rfl rfl rfl (by unfold inRange; omega) ?_
            refine g1 13 true 34 38 18 rfl rfl rfl rfl rfl ?_
            refine d1 38 193 18 rfl rfl rfl rfl rfl rfl (by first | trivial | omega | (simp only [List.length_map, List.length_append, List.length_cons, List.length_nil] at *; omega)) ?_
            refine g1 13 true 34 39 19 rfl rfl rfl rfl rfl ?_
            refine d1 39 201 19 rfl rfl rfl rfl rfl rfl trivial ?_
            refine g1 13 true 34 40 20 rfl rfl rfl rfl rfl ?_
            refine d1 40 209 20 rfl rfl rfl rfl rfl rfl (by first | trivial | omega | (simp only [List.length_map, List.length_append, List.length_cons, List.length_nil] at *; omega)) ?_
            refine g1 13 true 34 41 21 rfl rfl rfl rfl rfl ?_
            refine d1 41 217 21 rfl rfl rfl rfl rfl rfl trivial ?_
            refine g1 13 true 34 42 22 rfl rfl rfl rfl rfl ?_
            refine d1 42 225 22 rfl rfl rfl rfl rfl rfl (by first | trivial | omega | (simp only [List.length_map, List.length_append, List.length_cons, List.length_nil] at *; omega)) ?_
            refine g1 13 true 34 43 23 rfl rfl rfl rfl rfl ?_
            refine d1 43 233 23 rfl rfl rfl rfl rfl rfl (by first | trivial | omega | (simp only [List.length_map, List.length_append, List.length_cons, List.length_nil] at *; omega)) ?_
            refine g1 10 false 31 44 24 rfl rfl rfl rfl rfl ?_
            refine d1 44 241 24 rfl rfl rfl rfl rfl rfl trivial ?_
            refine d1 45 249 25 rfl rfl rfl rfl rfl rfl trivial ?_
            refine de1 257 rfl (by kernel_rfl) ?_
            refine keep [0, 3, 4, 7, 8, 9, 14, 15, 16, 45] rfl ?_
            refine q1 rfl (fun hc7 => ?_) (fun hc7 => ?_)
            · skip
              try simp only [decide_eq_true_eq, decide_eq_false_iff_not, Bool.not_eq_true', Bool.not_eq_false', beq_iff_eq, bne_iff_ne, beq_eq_false_iff_ne, Bool.and_eq_true, Bool.or_eq_true, Bool.and_eq_false_iff, Bool.or_eq_false_iff, ge_iff_le, gt_iff_lt, Int.not_lt, Int.not_le, ne_eq, Decidable.not_not, bne_eq_false_iff_eq] at hc7
              refine r1 ?_
              refine s1 2 257 1 rfl rfl rfl rfl rfl rfl trivial ?_
              refine e1 265 rfl ?_
              refine keep [2] rfl ?_
              refine W_ret ?_
              refine br ?_
              refine tr ?_
              refine tr ?_
              refine br ?_
              refine tr ?_
              refine br ?_
              refine tr ?_
              refine tr ?_
              refine br ?_
              refine tr ?_
              exact out1 2 (SV.b p) (π := []) (hout := []) Try.results20 rfl (by have : p = false := (by rw [← Bool.not_eq_true, hp]; rintro ⟨ht0, ht⟩; have hs := ht i (by omega); first | (have := hs.len; omega) | (have hk := hs.tag k (by omega); have h1 := hk.key; have h2 := hk.val; have h3 := hk.asc; first | (have h4 := h3 (by omega); have e := hc7; simp only [show ((k : Int) - 1).toNat = k - 1 from by omega, Int.toNat_natCast, Nat.zero_add] at e; unfold geB at h4; rw [e] at h4; cases h4) | (simp_all; done)) | (have h5 := hs.new; rw [← firstEq_neg] at h5; omega)); rw [this]; rfl) rfl rfl trivial ⟨rfl, rfl⟩
            · skip
              try simp only [decide_eq_true_eq, decide_eq_false_iff_not, Bool.not_eq_true', Bool.not_eq_false', beq_iff_eq, bne_iff_ne, beq_eq_false_iff_ne, Bool.and_eq_true, Bool.or_eq_true, Bool.and_eq_false_iff, Bool.or_eq_false_iff, ge_iff_le, gt_iff_lt, Int.not_lt, Int.not_le, ne_eq, Decidable.not_not, bne_eq_false_iff_eq] at hc7
              refine W_skip ?_
              refine bn ?_
              refine tn ?_
              refine r0 ?_
              refine sA 46 257 1 rfl rfl rfl rfl rfl rfl rfl rfl rfl (by unfold inRange; omega) ?_
              refine s1 16 265 2 rfl rfl rfl rfl rfl rfl trivial ?_
              refine e1 273 rfl ?_
              refine tn ?_
              exact again (k + 1) [0] ⟨by omega, fun j hj => by by_cases e : j = k; (subst e; exact ⟨by assumption, by assumption, by intro h0; first | omega | (have e := hc7; simp only [show ((j : Int) - 1).toNat = j - 1 from by omega, Int.toNat_natCast, Nat.zero_add] at e; unfold geB; rw [e]; rfl)⟩); exact hser j (by omega)⟩ (by omega) rfl ⟨rfl, rfl, rfl, rfl, rfl, rfl, rfl, rfl, rfl, trivial⟩ ⟨rfl, trivial⟩
          · skip
            try simp only [decide_eq_true_eq, decide_eq_false_iff_not, Bool.not_eq_true', Bool.not_eq_false', beq_iff_eq, bne_iff_ne, beq_eq_false_iff_ne, Bool.and_eq_true, Bool.or_eq_true, Bool.and_eq_false_iff, Bool.or_eq_false_iff, ge_iff_le, gt_iff_lt, Int.not_lt, Int.not_le, ne_eq, Decidable.not_not, bne_eq_false_iff_eq] at hg7_34
            refine g0 13 true 34 35 15 rfl rfl rfl rfl rfl rfl ?_
            refine g0 13 true 34 36 16 rfl rfl rfl rfl rfl rfl ?_
            refine g0 13 true 34 37 17 rfl rfl rfl rfl rfl rfl ?_
            refine g0 13 true 34 38 18 rfl rfl rfl rfl rfl rfl ?_
            refine g0 13 true 34 39 19 rfl rfl rfl rfl rfl rfl ?_
            refine g0 13 true 34 40 20 rfl rfl rfl rfl rfl rfl ?_
            refine g0 13 true 34 41 21 rfl rfl rfl rfl rfl rfl ?_
            refine g0 13 true 34 42 22 rfl rfl rfl rfl rfl rfl ?_
            refine g0 13 true 34 43 23 rfl rfl rfl rfl rfl rfl ?_
            refine g1 10 false 31 44 24 rfl rfl rfl rfl rfl ?_
            refine d1 44 241 24 rfl rfl rfl rfl rfl rfl trivial ?_
            refine d1 45 249 25 rfl rfl rfl rfl rfl rfl trivial ?_
            refine de1 257 rfl (by kernel_rfl) ?_
            refine keep [0, 3, 4, 7, 8, 9, 14, 15, 16, 45] rfl ?_
            refine q1 rfl (fun hc7 => ?_) (fun hc7 => ?_)
            · skip
              exact absurd hc7 (by decide)
            · skip
              try simp only [decide_eq_true_eq, decide_eq_false_iff_not, Bool.not_eq_true', Bool.not_eq_false', beq_iff_eq, bne_iff_ne, beq_eq_false_iff_ne, Bool.and_eq_true, Bool.or_eq_true, Bool.and_eq_false_iff, Bool.or_eq_false_iff, ge_iff_le, gt_iff_lt, Int.not_lt, Int.not_le, ne_eq, Decidable.not_not, bne_eq_false_iff_eq] at hc7
              refine W_skip ?_
              refine bn ?_
              refine tn ?_
              refine r0 ?_
              refine sA 46 257 1 rfl rfl rfl rfl rfl rfl rfl rfl rfl (by unfold inRange; omega) ?_
              refine s1 16 265 2 rfl rfl rfl rfl rfl rfl trivial ?_
              refine e1 273 rfl ?_
              refine tn ?_
              exact again (k + 1) [0] ⟨by omega, fun j hj => by by_cases e : j = k; (subst e; exact ⟨by assumption, by assumption, by intro h0; first | omega | (have e := hc7; simp only [show ((j : Int) - 1).toNat = j - 1 from by omega, Int.toNat_natCast, Nat.zero_add] at e; unfold geB; rw [e]; rfl)⟩); exact hser j (by omega)⟩ (by omega) rfl ⟨rfl, rfl, rfl, rfl, rfl, rfl, rfl, rfl, rfl, trivial⟩ ⟨rfl, trivial⟩
    · skip
      try simp only [decide_eq_true_eq, decide_eq_false_iff_not, Bool.not_eq_true', Bool.not_eq_false', beq_iff_eq, bne_iff_ne, beq_eq_false_iff_ne, Bool.and_eq_true, Bool.or_eq_true, Bool.and_eq_false_iff, Bool.or_eq_false_iff, ge_iff_le, gt_iff_lt, Int.not_lt, Int.not_le, ne_eq, Decidable.not_not, bne_eq_false_iff_eq] at hc5
      refine W_exit ?_
      refine tx ?_
      refine tx ?_
      refine bx ?_
      refine tn ?_
      refine r1 ?_
      refine s1 47 9 1 rfl rfl rfl rfl rfl rfl (by first | trivial | omega | (simp only [List.length_map, List.length_append, List.length_cons, List.length_nil] at *; omega)) ?_
      refine s1 48 17 2 rfl rfl rfl rfl rfl rfl (by first | trivial | omega | (simp only [List.length_map, List.length_append, List.length_cons, List.length_nil] at *; omega)) ?_
      refine s1 49 25 3 rfl rfl rfl rfl rfl rfl (by first | trivial | omega | (simp only [List.length_map, List.length_append, List.length_cons, List.length_nil] at *; omega)) ?_
      refine s1 50 33 4 rfl rfl rfl rfl rfl rfl trivial ?_
      refine ask 50 rfl (fun hg10_50 => ?_) (fun hg10_50 => ?_)
      · skip
        try simp only [decide_eq_true_eq, decide_eq_false_iff_not, Bool.not_eq_true', Bool.not_eq_false', beq_iff_eq, bne_iff_ne, beq_eq_false_iff_ne, Bool.and_eq_true, Bool.or_eq_true, Bool.and_eq_false_iff, Bool.or_eq_false_iff, ge_iff_le, gt_iff_lt, Int.not_lt, Int.not_le, ne_eq, Decidable.not_not, bne_eq_false_iff_eq] at hg10_50
        refine g0 3 false 50 51 5 rfl rfl rfl rfl rfl rfl ?_
        refine g0 3 false 50 52 6 rfl rfl rfl rfl rfl rfl ?_
        refine g0 3 false 50 53 7 rfl rfl rfl rfl rfl rfl ?_
        refine g0 3 false 50 54 8 rfl rfl rfl rfl rfl rfl ?_
        refine g0 3 false 50 55 9 rfl rfl rfl rfl rfl rfl ?_
        refine s1 56 81 10 rfl rfl rfl rfl rfl rfl trivial ?_
        refine e1 89 rfl ?_
        refine keep [0, 7, 8, 9, 56] rfl ?_
        refine q1 rfl (fun hc10 => ?_) (fun hc10 => ?_)
        · skip
          try simp only [decide_eq_true_eq, decide_eq_false_iff_not, Bool.not_eq_true', Bool.not_eq_false', beq_iff_eq, bne_iff_ne, beq_eq_false_iff_ne, Bool.and_eq_true, Bool.or_eq_true, Bool.and_eq_false_iff, Bool.or_eq_false_iff, ge_iff_le, gt_iff_lt, Int.not_lt, Int.not_le, ne_eq, Decidable.not_not, bne_eq_false_iff_eq] at hc10
          refine r1 ?_
          refine s1 2 89 1 rfl rfl rfl rfl rfl rfl trivial ?_
          refine e1 97 rfl ?_
          refine keep [2] rfl ?_
          refine W_ret ?_
          refine br ?_
          refine tr ?_
          refine tr ?_
          refine br ?_
          refine tr ?_
          exact out1 2 (SV.b p) (π := []) (hout := []) Try.results20 rfl (by have : p = false := (by rw [← Bool.not_eq_true, hp]; rintro ⟨ht0, ht⟩; have hs := ht i (by omega); first | (have := hs.len; omega) | (have hk := hs.tag k (by omega); have h1 := hk.key; have h2 := hk.val; have h3 := hk.asc; first | (have h4 := h3 (by omega); have e := hc7; simp only [show ((k : Int) - 1).toNat = k - 1 from by omega, Int.toNat_natCast, Nat.zero_add] at e; unfold geB at h4; rw [e] at h4; cases h4) | (simp_all; done)) | (have h5 := hs.new; rw [← firstEq_neg] at h5; omega)); rw [this]; rfl) rfl rfl trivial ⟨rfl, rfl⟩
        · skip
          exact absurd hc10 (by decide)
      · skip
        try simp only [decide_eq_true_eq, decide_eq_false_iff_not, Bool.not_eq_true', Bool.not_eq_false', beq_iff_eq, bne_iff_ne, beq_eq_false_iff_ne, Bool.and_eq_true, Bool.or_eq_true, Bool.and_eq_false_iff, Bool.or_eq_false_iff, ge_iff_le, gt_iff_lt, Int.not_lt, Int.not_le, ne_eq, Decidable.not_not, bne_eq_false_iff_eq] at hg10_50
        refine g1 3 false 50 51 5 rfl rfl rfl rfl rfl ?_
        refine s1 51 41 5 rfl rfl rfl rfl rfl rfl trivial ?_
        refine g1 3 false 50 52 6 rfl rfl rfl rfl rfl ?_
        refine s1 52 49 6 rfl rfl rfl rfl rfl rfl trivial ?_
        refine g1 3 false 50 53 7 rfl rfl rfl rfl rfl ?_
        refine s1 53 57 7 rfl rfl rfl rfl rfl rfl (by first | trivial | omega | (simp only [List.length_map, List.length_append, List.length_cons, List.length_nil] at *; omega)) ?_
        refine g1 3 false 50 54 8 rfl rfl rfl rfl rfl ?_
        refine s1 54 65 8 rfl rfl rfl rfl rfl rfl trivial ?_
        refine g1 3 false 50 55 9 rfl rfl rfl rfl rfl ?_
        refine c1 (hasEq_any (ss.getD i []) ss i (by omega) hl) [0] [0] 55 73 9 rfl rfl rfl rfl rfl rfl rfl rfl Try.func41 rfl rfl rfl rfl ⟨rfl, trivial⟩ rfl rfl ?_
        refine s1 56 81 10 rfl rfl rfl rfl rfl rfl trivial ?_
        refine e1 89 rfl ?_
        refine keep [0, 7, 8, 9, 56] rfl ?_
        refine q1 rfl (fun hc10 => ?_) (fun hc10 => ?_)
        · skip
          try simp only [decide_eq_true_eq, decide_eq_false_iff_not, Bool.not_eq_true', Bool.not_eq_false', beq_iff_eq, bne_iff_ne, beq_eq_false_iff_ne, Bool.and_eq_true, Bool.or_eq_true, Bool.and_eq_false_iff, Bool.or_eq_false_iff, ge_iff_le, gt_iff_lt, Int.not_lt, Int.not_le, ne_eq, Decidable.not_not, bne_eq_false_iff_eq] at hc10
          refine r1 ?_
          refine s1 2 89 1 rfl rfl rfl rfl rfl rfl trivial ?_
          refine e1 97 rfl ?_
          refine keep [2] rfl ?_
          refine W_ret ?_
          refine br ?_
          refine tr ?_
          refine tr ?_
          refine br ?_
          refine tr ?_
          exact out1 2 (SV.b p) (π := []) (hout := []) Try.results20 rfl (by have : p = false := (by rw [← Bool.not_eq_true, hp]; rintro ⟨ht0, ht⟩; have hs := ht i (by omega); first | (have := hs.len; omega) | (have hk := hs.tag k (by omega); have h1 := hk.key; have h2 := hk.val; have h3 := hk.asc; first | (have h4 := h3 (by omega); have e := hc7; simp only [show ((k : Int) - 1).toNat = k - 1 from by omega, Int.toNat_natCast, Nat.zero_add] at e; unfold geB at h4; rw [e] at h4; cases h4) | (simp_all; done)) | (have h5 := hs.new; rw [← firstEq_neg] at h5; omega)); rw [this]; rfl) rfl rfl trivial ⟨rfl, rfl⟩
        · skip
          try simp only [decide_eq_true_eq, decide_eq_false_iff_not, Bool.not_eq_true', Bool.not_eq_false', beq_iff_eq, bne_iff_ne, beq_eq_false_iff_ne, Bool.and_eq_true, Bool.or_eq_true, Bool.and_eq_false_iff, Bool.or_eq_false_iff, ge_iff_le, gt_iff_lt, Int.not_lt, Int.not_le, ne_eq, Decidable.not_not, bne_eq_false_iff_eq] at hc10
          refine W_skip ?_
          refine bn ?_
          refine tn ?_
          refine r0 ?_
          refine sA 57 89 1 rfl rfl rfl rfl rfl rfl rfl rfl rfl (by unfold inRange; omega) ?_
          refine s1 9 97 2 rfl rfl rfl rfl rfl rfl trivial ?_
          refine e1 105 rfl ?_
          refine tn ?_
          exact again (i + 1) [] ⟨by omega, fun j hj => by by_cases e : j = i; (subst e; exact ⟨by omega, fun q hq => hser q (by omega), firstEq_neg.1 (by omega)⟩); exact hno j (by omega)⟩ (by omega) rfl ⟨rfl, rfl, rfl, rfl, trivial⟩ trivial
  · skip
    try simp only [decide_eq_true_eq, decide_eq_false_iff_not, Bool.not_eq_true', Bool.not_eq_false', beq_iff_eq, bne_iff_ne, beq_eq_false_iff_ne, Bool.and_eq_true, Bool.or_eq_true, Bool.and_eq_false_iff, Bool.or_eq_false_iff, ge_iff_le, gt_iff_lt, Int.not_lt, Int.not_le, ne_eq, Decidable.not_not, bne_eq_false_iff_eq] at hc2
    refine W_exit ?_
    refine tx ?_
    refine tx ?_
    refine bx ?_
    refine tn ?_
    refine r1 ?_
    refine s1 58 8 1 rfl rfl rfl rfl rfl rfl trivial ?_
    refine s1 59 16 2 rfl rfl rfl rfl rfl rfl (by first | trivial | omega | (simp only [List.length_map, List.length_append, List.length_cons, List.length_nil] at *; omega)) ?_
    refine s1 60 24 3 rfl rfl rfl rfl rfl rfl (by first | trivial | omega | (simp only [List.length_map, List.length_append, List.length_cons, List.length_nil] at *; omega)) ?_
    refine s1 2 32 4 rfl rfl rfl rfl rfl rfl trivial ?_
    refine e1 40 rfl ?_
    refine keep [2] rfl ?_
    refine W_ret ?_
    exact out1 2 (SV.b p) (π := []) (hout := []) Try.results20 rfl (by show SV.b _ = SV.b _; refine congrArg SV.b (Bool.eq_iff_iff.2 ?_); rw [hp, decide_eq_true_eq]; exact ⟨fun h => ⟨by omega, fun j hj => hno j (by omega)⟩, fun h => by have := h.1; omega⟩) rfl rfl trivial ⟨rfl, rfl⟩

theorem refTagsMay_any (ss : List (List TagD)) (hin : TagsIn ss) (p : Bool) (hp : p = true ↔ TagsOk ss) : Spec Try.prog GT 21 [serV ss ss.length] [] (fun r ho => r = SV.b p ∧ ho = []) := by
  refine start 64 0 Try.func21 rfl rfl rfl rfl ?_
  refine r1 ?_
  refine s1 2 0 1 rfl rfl rfl rfl rfl rfl trivial ?_
  refine e1 8 rfl ?_
  refine keep [0] rfl ?_
  refine W_seq ?_
  refine r1 ?_
  refine s1 8 8 1 rfl rfl rfl rfl rfl rfl trivial ?_
  refine s1 9 16 2 rfl rfl rfl rfl rfl rfl (by first | trivial | omega | (simp only [List.length_map, List.length_append, List.length_cons, List.length_nil] at *; omega)) ?_
  refine s1 10 24 3 rfl rfl rfl rfl rfl rfl (by first | trivial | omega | (simp only [List.length_map, List.length_append, List.length_cons, List.length_nil] at *; omega)) ?_
  refine e1 32 rfl ?_
  refine keep [0, 10] rfl ?_
  refine q1 rfl (fun hc1 => ?_) (fun hc1 => ?_)
  · skip
    try simp only [decide_eq_true_eq, decide_eq_false_iff_not, Bool.not_eq_true', Bool.not_eq_false', beq_iff_eq, bne_iff_ne, beq_eq_false_iff_ne, Bool.and_eq_true, Bool.or_eq_true, Bool.and_eq_false_iff, Bool.or_eq_false_iff, ge_iff_le, gt_iff_lt, Int.not_lt, Int.not_le, ne_eq, Decidable.not_not, bne_eq_false_iff_eq] at hc1
    refine r1 ?_
    refine s1 2 32 1 rfl rfl rfl rfl rfl rfl trivial ?_
    refine e1 40 rfl ?_
    refine keep [2] rfl ?_
    refine W_ret ?_
    refine tr ?_
    exact out1 2 (SV.b p) (π := []) (hout := []) Try.results21 rfl (by have : p = false := (by rw [← Bool.not_eq_true, hp]; rintro ⟨ht0, ht⟩; omega); rw [this]; rfl) rfl rfl trivial ⟨rfl, rfl⟩
  · skip
    try simp only [decide_eq_true_eq, decide_eq_false_iff_not, Bool.not_eq_true', Bool.not_eq_false', beq_iff_eq, bne_iff_ne, beq_eq_false_iff_ne, Bool.and_eq_true, Bool.or_eq_true, Bool.and_eq_false_iff, Bool.or_eq_false_iff, ge_iff_le, gt_iff_lt, Int.not_lt, Int.not_le, ne_eq, Decidable.not_not, bne_eq_false_iff_eq] at hc1
    refine W_skip ?_
    refine tn ?_
    refine W_seq ?_
    refine r1 ?_
    refine s1 11 32 1 rfl rfl rfl rfl rfl rfl trivial ?_
    refine s1 12 40 2 rfl rfl rfl rfl rfl rfl (by first | trivial | omega | (simp only [List.length_map, List.length_append, List.length_cons, List.length_nil] at *; omega)) ?_
    refine s1 13 48 3 rfl rfl rfl rfl rfl rfl trivial ?_
    refine e1 56 rfl ?_
    refine keep [0, 11, 12, 13] rfl ?_
    refine W_block ?_
    refine loop (α := Nat) 0 (fun i => [(0, serV ss ss.length), (11, serV ss ss.length), (12, SV.i ss.length), (13, SV.i i)]) (fun i => []) (fun i => i ≤ ss.length ∧ ∀ j, j < i → SerOk ss j) (fun i => ss.length - i) (0) [] (fun _ => rfl) ⟨Nat.zero_le _, fun j hj => by omega⟩ rfl ⟨rfl, rfl, rfl, rfl, trivial⟩ trivial (fun i hx => ?_)
    obtain ⟨hn, hno⟩ := hx
    have hl := hin.l i
    have hln := hin.n
    refine r1 ?_
    refine s1 14 0 1 rfl rfl rfl rfl rfl rfl (by first | trivial | omega | (simp only [List.length_map, List.length_append, List.length_cons, List.length_nil] at *; omega)) ?_
    refine e1 8 rfl ?_
    refine keep [0, 11, 12, 13, 14] rfl ?_
    refine W_seq ?_
    refine q1 rfl (fun hc4 => ?_) (fun hc4 => ?_)
    · skip
      try simp only [decide_eq_true_eq, decide_eq_false_iff_not, Bool.not_eq_true', Bool.not_eq_false', beq_iff_eq, bne_iff_ne, beq_eq_false_iff_ne, Bool.and_eq_true, Bool.or_eq_true, Bool.and_eq_false_iff, Bool.or_eq_false_iff, ge_iff_le, gt_iff_lt, Int.not_lt, Int.not_le, ne_eq, Decidable.not_not, bne_eq_false_iff_eq] at hc4
      refine W_skip ?_
      refine tn ?_
      refine W_seq ?_
      refine W_block ?_
      refine r1 ?_
      refine s1 15 8 1 rfl rfl rfl rfl rfl rfl trivial ?_
      refine s1 16 16 2 rfl rfl rfl rfl rfl rfl (by first | trivial | omega | (simp only [List.length_map, List.length_append, List.length_cons, List.length_nil] at *; omega)) ?_
      refine s1 17 24 3 rfl rfl rfl rfl rfl rfl (by first | trivial | omega | (simp only [List.length_map, List.length_append, List.length_cons, List.length_nil] at *; omega)) ?_
      refine val 17 (tagsV (ss.getD i [])) rfl (by first | rfl | (unfold tagsV; simp only [Int.toNat_natCast, Nat.zero_add]; rfl)) ?_
      refine s1 3 32 4 rfl rfl rfl rfl rfl rfl trivial ?_
      refine s1 4 40 5 rfl rfl rfl rfl rfl rfl trivial ?_
      refine e1 48 rfl ?_
      refine keep [0, 3, 4, 11, 12, 13] rfl ?_
      refine W_seq ?_
      refine r1 ?_
      refine s1 18 48 1 rfl rfl rfl rfl rfl rfl trivial ?_
      refine s1 19 56 2 rfl rfl rfl rfl rfl rfl (by first | trivial | omega | (simp only [List.length_map, List.length_append, List.length_cons, List.length_nil] at *; omega)) ?_
      refine s1 20 64 3 rfl rfl rfl rfl rfl rfl (by first | trivial | omega | (simp only [List.length_map, List.length_append, List.length_cons, List.length_nil] at *; omega)) ?_
      refine e1 72 rfl ?_
      refine keep [0, 3, 4, 11, 12, 13, 20] rfl ?_
      refine q1 rfl (fun hc6 => ?_) (fun hc6 => ?_)
      · skip
        try simp only [decide_eq_true_eq, decide_eq_false_iff_not, Bool.not_eq_true', Bool.not_eq_false', beq_iff_eq, bne_iff_ne, beq_eq_false_iff_ne, Bool.and_eq_true, Bool.or_eq_true, Bool.and_eq_false_iff, Bool.or_eq_false_iff, ge_iff_le, gt_iff_lt, Int.not_lt, Int.not_le, ne_eq, Decidable.not_not, bne_eq_false_iff_eq] at hc6
        refine r1 ?_
        refine s1 2 72 1 rfl rfl rfl rfl rfl rfl trivial ?_
        refine e1 80 rfl ?_
        refine keep [2] rfl ?_
        refine W_ret ?_
        refine tr ?_
        refine br ?_
        refine tr ?_
        refine tr ?_
        refine br ?_
        refine tr ?_
        exact out1 2 (SV.b p) (π := []) (hout := []) Try.results21 rfl (by have : p = false := (by rw [← Bool.not_eq_true, hp]; rintro ⟨ht0, ht⟩; have hs := ht i (by omega); first | (have := hs.len; omega) | (have hk := hs.tag k (by omega); have h1 := hk.key; have h2 := hk.val; have h3 := hk.asc; first | (have h4 := h3 (by omega); have e := hc13; simp only [show ((k : Int) - 1).toNat = k - 1 from by omega, Int.toNat_natCast, Nat.zero_add] at e; unfold geB at h4; rw [e] at h4; cases h4) | (simp_all; done)) | (have h5 := hs.new q (by omega); have e2 := hc19; first | exact h5 e2.symm | (simp only [Int.toNat_natCast, Nat.zero_add] at e2; exact h5 e2.symm)) | (have h5 := hs.new; rw [← firstEq_neg] at h5; omega)); rw [this]; rfl) rfl rfl trivial ⟨rfl, rfl⟩
      · skip
        try simp only [decide_eq_true_eq, decide_eq_false_iff_not, Bool.not_eq_true', Bool.not_eq_false', beq_iff_eq, bne_iff_ne, beq_eq_false_iff_ne, Bool.and_eq_true, Bool.or_eq_true, Bool.and_eq_false_iff, Bool.or_eq_false_iff, ge_iff_le, gt_iff_lt, Int.not_lt, Int.not_le, ne_eq, Decidable.not_not, bne_eq_false_iff_eq] at hc6
        refine W_skip ?_
        refine tn ?_
        refine W_seq ?_
        refine r1 ?_
        refine s1 21 72 1 rfl rfl rfl rfl rfl rfl trivial ?_
        refine s1 22 80 2 rfl rfl rfl rfl rfl rfl (by first | trivial | omega | (simp only [List.length_map, List.length_append, List.length_cons, List.length_nil] at *; omega)) ?_
        refine s1 23 88 3 rfl rfl rfl rfl rfl rfl trivial ?_
        refine e1 96 rfl ?_
        refine keep [0, 3, 4, 11, 12, 13, 21, 22, 23] rfl ?_
        refine W_block ?_
        refine loop (α := Nat) 0 (fun k => [(0, serV ss ss.length), (3, SV.i i), (4, tagsV (ss.getD i [])), (11, serV ss ss.length), (12, SV.i ss.length), (13, SV.i i), (21, tagsV (ss.getD i [])), (22, SV.i (ss.getD i []).length), (23, SV.i k)]) (fun k => []) (fun k => k ≤ (ss.getD i []).length ∧ ∀ j, j < k → TagOk (ss.getD i []) j) (fun k => (ss.getD i []).length - k) (0) [] (fun _ => rfl) ⟨Nat.zero_le _, fun j hj => by omega⟩ rfl ⟨rfl, rfl, rfl, rfl, rfl, rfl, rfl, rfl, rfl, trivial⟩ trivial (fun k hx => ?_)
        obtain ⟨hkn, hser⟩ := hx
        refine r1 ?_
        refine s1 24 0 1 rfl rfl rfl rfl rfl rfl (by first | trivial | omega | (simp only [List.length_map, List.length_append, List.length_cons, List.length_nil] at *; omega)) ?_
        refine e1 8 rfl ?_
        refine keep [0, 3, 4, 11, 12, 13, 21, 22, 23, 24] rfl ?_
        refine W_seq ?_
        refine q1 rfl (fun hc9 => ?_) (fun hc9 => ?_)
        · skip
          try simp only [decide_eq_true_eq, decide_eq_false_iff_not, Bool.not_eq_true', Bool.not_eq_false', beq_iff_eq, bne_iff_ne, beq_eq_false_iff_ne, Bool.and_eq_true, Bool.or_eq_true, Bool.and_eq_false_iff, Bool.or_eq_false_iff, ge_iff_le, gt_iff_lt, Int.not_lt, Int.not_le, ne_eq, Decidable.not_not, bne_eq_false_iff_eq] at hc9
          refine W_skip ?_
          refine tn ?_
          refine W_seq ?_
          refine W_block ?_
          refine r1 ?_
          refine s1 25 8 1 rfl rfl rfl rfl rfl rfl trivial ?_
          refine s1 26 16 2 rfl rfl rfl rfl rfl rfl (by first | trivial | omega | (simp only [List.length_map, List.length_append, List.length_cons, List.length_nil] at *; omega)) ?_
          refine s1 27 24 3 rfl rfl rfl rfl rfl rfl (by first | trivial | omega | (simp only [List.length_map, List.length_append, List.length_cons, List.length_nil] at *; omega)) ?_
          refine s1 6 32 4 rfl rfl rfl rfl rfl rfl trivial ?_
          refine s1 5 40 5 rfl rfl rfl rfl rfl rfl trivial ?_
          refine s0 48 6 rfl rfl rfl rfl rfl (by first | trivial | omega | (simp only [List.length_map, List.length_append, List.length_cons, List.length_nil] at *; omega)) ?_
          refine e1 56 rfl ?_
          refine keep [0, 3, 4, 5, 6, 11, 12, 13, 21, 22, 23] rfl ?_
          refine W_seq ?_
          refine r1 ?_
          refine s1 28 56 1 rfl rfl rfl rfl rfl rfl trivial ?_
          refine s1 29 64 2 rfl rfl rfl rfl rfl rfl (by first | trivial | omega | (simp only [List.length_map, List.length_append, List.length_cons, List.length_nil] at *; omega)) ?_
          refine c1 (good_any ((ss.getD i []).getD k default).key (hin.k i k)) [] [] 30 72 3 rfl rfl rfl rfl rfl rfl rfl rfl Try.func44 rfl rfl rfl rfl trivial rfl rfl ?_
          refine s1 31 80 4 rfl rfl rfl rfl rfl rfl trivial ?_
          refine s1 32 88 5 rfl rfl rfl rfl rfl rfl trivial ?_
          refine ask 32 rfl (fun hg11_32 => ?_) (fun hg11_32 => ?_)
          · skip
            try simp only [decide_eq_true_eq, decide_eq_false_iff_not, Bool.not_eq_true', Bool.not_eq_false', beq_iff_eq, bne_iff_ne, beq_eq_false_iff_ne, Bool.and_eq_true, Bool.or_eq_true, Bool.and_eq_false_iff, Bool.or_eq_false_iff, ge_iff_le, gt_iff_lt, Int.not_lt, Int.not_le, ne_eq, Decidable.not_not, bne_eq_false_iff_eq] at hg11_32
            refine g0 4 false 32 33 6 rfl rfl rfl rfl rfl rfl ?_
            refine g0 4 false 32 34 7 rfl rfl rfl rfl rfl rfl ?_
            refine g0 4 false 32 35 8 rfl rfl rfl rfl rfl rfl ?_
            refine g0 4 false 32 36 9 rfl rfl rfl rfl rfl rfl ?_
            refine s1 37 128 10 rfl rfl rfl rfl rfl rfl trivial ?_
            refine e1 136 rfl ?_
            refine keep [0, 3, 4, 5, 6, 11, 12, 13, 21, 22, 23, 37] rfl ?_
            refine q1 rfl (fun hc11 => ?_) (fun hc11 => ?_)
            · skip
              try simp only [decide_eq_true_eq, decide_eq_false_iff_not, Bool.not_eq_true', Bool.not_eq_false', beq_iff_eq, bne_iff_ne, beq_eq_false_iff_ne, Bool.and_eq_true, Bool.or_eq_true, Bool.and_eq_false_iff, Bool.or_eq_false_iff, ge_iff_le, gt_iff_lt, Int.not_lt, Int.not_le, ne_eq, Decidable.not_not, bne_eq_false_iff_eq] at hc11
              refine r1 ?_
              refine s1 2 136 1 rfl rfl rfl rfl rfl rfl trivial ?_
              refine e1 144 rfl ?_
              refine keep [2] rfl ?_
              refine W_ret ?_
              refine tr ?_
              refine br ?_
              refine tr ?_
              refine tr ?_
              refine br ?_
              refine tr ?_
              refine br ?_
              refine tr ?_
              refine tr ?_
              refine br ?_
              refine tr ?_
              exact out1 2 (SV.b p) (π := []) (hout := []) Try.results21 rfl (by have : p = false := (by rw [← Bool.not_eq_true, hp]; rintro ⟨ht0, ht⟩; have hs := ht i (by omega); first | (have := hs.len; omega) | (have hk := hs.tag k (by omega); have h1 := hk.key; have h2 := hk.val; have h3 := hk.asc; first | (have h4 := h3 (by omega); have e := hc13; simp only [show ((k : Int) - 1).toNat = k - 1 from by omega, Int.toNat_natCast, Nat.zero_add] at e; unfold geB at h4; rw [e] at h4; cases h4) | (simp_all; done)) | (have h5 := hs.new q (by omega); have e2 := hc19; first | exact h5 e2.symm | (simp only [Int.toNat_natCast, Nat.zero_add] at e2; exact h5 e2.symm)) | (have h5 := hs.new; rw [← firstEq_neg] at h5; omega)); rw [this]; rfl) rfl rfl trivial ⟨rfl, rfl⟩
            · skip
              exact absurd hc11 (by decide)
          · skip
            try simp only [decide_eq_true_eq, decide_eq_false_iff_not, Bool.not_eq_true', Bool.not_eq_false', beq_iff_eq, bne_iff_ne, beq_eq_false_iff_ne, Bool.and_eq_true, Bool.or_eq_true, Bool.and_eq_false_iff, Bool.or_eq_false_iff, ge_iff_le, gt_iff_lt, Int.not_lt, Int.not_le, ne_eq, Decidable.not_not, bne_eq_false_iff_eq] at hg11_32
            refine g1 4 false 32 33 6 rfl rfl rfl rfl rfl ?_
            refine s1 33 96 6 rfl rfl rfl rfl rfl rfl trivial ?_
            refine g1 4 false 32 34 7 rfl rfl rfl rfl rfl ?_
            refine s1 34 104 7 rfl rfl rfl rfl rfl rfl (by first | trivial | omega | (simp only [List.length_map, List.length_append, List.length_cons, List.length_nil] at *; omega)) ?_
            refine g1 4 false 32 35 8 rfl rfl rfl rfl rfl ?_
            refine c1 (good_any ((ss.getD i []).getD k default).val (hin.v i k)) [] [] 35 112 8 rfl rfl rfl rfl rfl rfl rfl rfl Try.func44 rfl rfl rfl rfl trivial rfl rfl ?_
            refine g1 4 false 32 36 9 rfl rfl rfl rfl rfl ?_
            refine s1 36 120 9 rfl rfl rfl rfl rfl rfl trivial ?_
            refine s1 37 128 10 rfl rfl rfl rfl rfl rfl trivial ?_
            refine e1 136 rfl ?_
            refine keep [0, 3, 4, 5, 6, 11, 12, 13, 21, 22, 23, 37] rfl ?_
            refine q1 rfl (fun hc11 => ?_) (fun hc11 => ?_)
            · skip
              try simp only [decide_eq_true_eq, decide_eq_false_iff_not, Bool.not_eq_true', Bool.not_eq_false', beq_iff_eq, bne_iff_ne, beq_eq_false_iff_ne, Bool.and_eq_true, Bool.or_eq_true, Bool.and_eq_false_iff, Bool.or_eq_false_iff, ge_iff_le, gt_iff_lt, Int.not_lt, Int.not_le, ne_eq, Decidable.not_not, bne_eq_false_iff_eq] at hc11
              refine r1 ?_
              refine s1 2 136 1 rfl rfl rfl rfl rfl rfl trivial ?_
              refine e1 144 rfl ?_
              refine keep [2] rfl ?_
              refine W_ret ?_
              refine tr ?_
              refine br ?_
              refine tr ?_
              refine tr ?_
              refine br ?_
              refine tr ?_
              refine br ?_
              refine tr ?_
              refine tr ?_
              refine br ?_
              refine tr ?_
              exact out1 2 (SV.b p) (π := []) (hout := []) Try.results21 rfl (by have : p = false := (by rw [← Bool.not_eq_true, hp]; rintro ⟨ht0, ht⟩; have hs := ht i (by omega); first | (have := hs.len; omega) | (have hk := hs.tag k (by omega); have h1 := hk.key; have h2 := hk.val; have h3 := hk.asc; first | (have h4 := h3 (by omega); have e := hc13; simp only [show ((k : Int) - 1).toNat = k - 1 from by omega, Int.toNat_natCast, Nat.zero_add] at e; unfold geB at h4; rw [e] at h4; cases h4) | (simp_all; done)) | (have h5 := hs.new q (by omega); have e2 := hc19; first | exact h5 e2.symm | (simp only [Int.toNat_natCast, Nat.zero_add] at e2; exact h5 e2.symm)) | (have h5 := hs.new; rw [← firstEq_neg] at h5; omega)); rw [this]; rfl) rfl rfl trivial ⟨rfl, rfl⟩
            · skip
              try simp only [decide_eq_true_eq, decide_eq_false_iff_not, Bool.not_eq_true', Bool.not_eq_false', beq_iff_eq, bne_iff_ne, beq_eq_false_iff_ne, Bool.and_eq_true, Bool.or_eq_true, Bool.and_eq_false_iff, Bool.or_eq_false_iff, ge_iff_le, gt_iff_lt, Int.not_lt, Int.not_le, ne_eq, Decidable.not_not, bne_eq_false_iff_eq] at hc11
              refine W_skip ?_
              refine tn ?_
              refine rd1 rfl ?_
              refine d1 38 136 1 rfl rfl rfl rfl rfl rfl trivial ?_
              refine d1 39 144 2 rfl rfl rfl rfl rfl rfl (by first | trivial | omega | (simp only [List.length_map, List.length_append, List.length_cons, List.length_nil] at *; omega)) ?_
              refine d1 40 152 3 rfl rfl rfl rfl rfl rfl trivial ?_
              refine ask 40 rfl (fun hg13_40 => ?_) (fun hg13_40 => ?_)
              · skip
                try simp only [decide_eq_true_eq, decide_eq_false_iff_not, Bool.not_eq_true', Bool.not_eq_false', beq_iff_eq, bne_iff_ne, beq_eq_false_iff_ne, Bool.and_eq_true, Bool.or_eq_true, Bool.and_eq_false_iff, Bool.or_eq_false_iff, ge_iff_le, gt_iff_lt, Int.not_lt, Int.not_le, ne_eq, Decidable.not_not, bne_eq_false_iff_eq] at hg13_40
                refine g1 2 true 40 41 4 rfl rfl rfl rfl rfl ?_
                refine d1 41 160 4 rfl rfl rfl rfl rfl rfl trivial ?_
                refine g1 2 true 40 42 5 rfl rfl rfl rfl rfl ?_
                refine d1 42 168 5 rfl rfl rfl rfl rfl rfl trivial ?_
                refine g1 2 true 40 43 6 rfl rfl rfl rfl rfl ?_
                refine dA 43 176 6 rfl rfl rfl rfl rfl rfl rfl rfl rfl (by unfold inRange; omega) ?_
                refine g1 2 true 40 44 7 rfl rfl rfl rfl rfl ?_
                refine d1 44 184 7 rfl rfl rfl rfl rfl rfl (by first | trivial | omega | (simp only [List.length_map, List.length_append, List.length_cons, List.length_nil] at *; omega)) ?_
                refine g1 2 true 40 45 8 rfl rfl rfl rfl rfl ?_
                refine d1 45 192 8 rfl rfl rfl rfl rfl rfl trivial ?_
                refine g1 2 true 40 46 9 rfl rfl rfl rfl rfl ?_
                refine d1 46 200 9 rfl rfl rfl rfl rfl rfl (by first | trivial | omega | (simp only [List.length_map, List.length_append, List.length_cons, List.length_nil] at *; omega)) ?_
                refine g1 2 true 40 47 10 rfl rfl rfl rfl rfl ?_
                refine d1 47 208 10 rfl rfl rfl rfl rfl rfl trivial ?_
                refine g1 2 true 40 48 11 rfl rfl rfl rfl rfl ?_
                refine d1 48 216 11 rfl rfl rfl rfl rfl rfl (by first | trivial | omega | (simp only [List.length_map, List.length_append, List.length_cons, List.length_nil] at *; omega)) ?_
                refine g1 2 true 40 49 12 rfl rfl rfl rfl rfl ?_
                refine d1 49 224 12 rfl rfl rfl rfl rfl rfl (by first | trivial | omega | (simp only [List.length_map, List.length_append, List.length_cons, List.length_nil] at *; omega)) ?_
                refine d1 50 232 13 rfl rfl rfl rfl rfl rfl trivial ?_
                refine de1 240 rfl (by kernel_rfl) ?_
                refine keep [0, 3, 4, 11, 12, 13, 21, 22, 23, 50] rfl ?_
                refine q1 rfl (fun hc13 => ?_) (fun hc13 => ?_)
                · skip
                  try simp only [decide_eq_true_eq, decide_eq_false_iff_not, Bool.not_eq_true', Bool.not_eq_false', beq_iff_eq, bne_iff_ne, beq_eq_false_iff_ne, Bool.and_eq_true, Bool.or_eq_true, Bool.and_eq_false_iff, Bool.or_eq_false_iff, ge_iff_le, gt_iff_lt, Int.not_lt, Int.not_le, ne_eq, Decidable.not_not, bne_eq_false_iff_eq] at hc13
                  refine r1 ?_
                  refine s1 2 240 1 rfl rfl rfl rfl rfl rfl trivial ?_
                  refine e1 248 rfl ?_
                  refine keep [2] rfl ?_
                  refine W_ret ?_
                  refine br ?_
                  refine tr ?_
                  refine tr ?_
                  refine br ?_
                  refine tr ?_
                  refine br ?_
                  refine tr ?_
                  refine tr ?_
                  refine br ?_
                  refine tr ?_
                  exact out1 2 (SV.b p) (π := []) (hout := []) Try.results21 rfl (by have : p = false := (by rw [← Bool.not_eq_true, hp]; rintro ⟨ht0, ht⟩; have hs := ht i (by omega); first | (have := hs.len; omega) | (have hk := hs.tag k (by omega); have h1 := hk.key; have h2 := hk.val; have h3 := hk.asc; first | (have h4 := h3 (by omega); have e := hc13; simp only [show ((k : Int) - 1).toNat = k - 1 from by omega, Int.toNat_natCast, Nat.zero_add] at e; unfold geB at h4; rw [e] at h4; cases h4) | (simp_all; done)) | (have h5 := hs.new q (by omega); have e2 := hc19; first | exact h5 e2.symm | (simp only [Int.toNat_natCast, Nat.zero_add] at e2; exact h5 e2.symm)) | (have h5 := hs.new; rw [← firstEq_neg] at h5; omega)); rw [this]; rfl) rfl rfl trivial ⟨rfl, rfl⟩
                · skip
                  try simp only [decide_eq_true_eq, decide_eq_false_iff_not, Bool.not_eq_true', Bool.not_eq_false', beq_iff_eq, bne_iff_ne, beq_eq_false_iff_ne, Bool.and_eq_true, Bool.or_eq_true, Bool.and_eq_false_iff, Bool.or_eq_false_iff, ge_iff_le, gt_iff_lt, Int.not_lt, Int.not_le, ne_eq, Decidable.not_not, bne_eq_false_iff_eq] at hc13
                  refine W_skip ?_
                  refine bn ?_
                  refine tn ?_
                  refine r0 ?_
                  refine sA 51 240 1 rfl rfl rfl rfl rfl rfl rfl rfl rfl (by unfold inRange; omega) ?_
                  refine s1 23 248 2 rfl rfl rfl rfl rfl rfl trivial ?_
                  refine e1 256 rfl ?_
                  refine tn ?_
                  exact again (k + 1) [] ⟨by omega, fun j hj => by by_cases e : j = k; (subst e; exact ⟨by assumption, by assumption, by intro h0; first | omega | (have e := hc13; simp only [show ((j : Int) - 1).toNat = j - 1 from by omega, Int.toNat_natCast, Nat.zero_add] at e; unfold geB; rw [e]; rfl)⟩); exact hser j (by omega)⟩ (by omega) rfl ⟨rfl, rfl, rfl, rfl, rfl, rfl, rfl, rfl, rfl, trivial⟩ trivial
              · skip
                try simp only [decide_eq_true_eq, decide_eq_false_iff_not, Bool.not_eq_true', Bool.not_eq_false', beq_iff_eq, bne_iff_ne, beq_eq_false_iff_ne, Bool.and_eq_true, Bool.or_eq_true, Bool.and_eq_false_iff, Bool.or_eq_false_iff, ge_iff_le, gt_iff_lt, Int.not_lt, Int.not_le, ne_eq, Decidable.not_not, bne_eq_false_iff_eq] at hg13_40
                refine g0 2 true 40 41 4 rfl rfl rfl rfl rfl rfl ?_
                refine g0 2 true 40 42 5 rfl rfl rfl rfl rfl rfl ?_
                refine g0 2 true 40 43 6 rfl rfl rfl rfl rfl rfl ?_
                refine g0 2 true 40 44 7 rfl rfl rfl rfl rfl rfl ?_
                refine g0 2 true 40 45 8 rfl rfl rfl rfl rfl rfl ?_
                refine g0 2 true 40 46 9 rfl rfl rfl rfl rfl rfl ?_
                refine g0 2 true 40 47 10 rfl rfl rfl rfl rfl rfl ?_
                refine g0 2 true 40 48 11 rfl rfl rfl rfl rfl rfl ?_
                refine g0 2 true 40 49 12 rfl rfl rfl rfl rfl rfl ?_
                refine d1 50 232 13 rfl rfl rfl rfl rfl rfl trivial ?_
                refine de1 240 rfl (by kernel_rfl) ?_
                refine keep [0, 3, 4, 11, 12, 13, 21, 22, 23, 50] rfl ?_
                refine q1 rfl (fun hc13 => ?_) (fun hc13 => ?_)
                · skip
                  exact absurd hc13 (by decide)
                · skip
                  try simp only [decide_eq_true_eq, decide_eq_false_iff_not, Bool.not_eq_true', Bool.not_eq_false', beq_iff_eq, bne_iff_ne, beq_eq_false_iff_ne, Bool.and_eq_true, Bool.or_eq_true, Bool.and_eq_false_iff, Bool.or_eq_false_iff, ge_iff_le, gt_iff_lt, Int.not_lt, Int.not_le, ne_eq, Decidable.not_not, bne_eq_false_iff_eq] at hc13
                  refine W_skip ?_
                  refine bn ?_
                  refine tn ?_
                  refine r0 ?_
                  refine sA 51 240 1 rfl rfl rfl rfl rfl rfl rfl rfl rfl (by unfold inRange; omega) ?_
                  refine s1 23 248 2 rfl rfl rfl rfl rfl rfl trivial ?_
                  refine e1 256 rfl ?_
                  refine tn ?_
                  exact again (k + 1) [] ⟨by omega, fun j hj => by by_cases e : j = k; (subst e; exact ⟨by assumption, by assumption, by intro h0; first | omega | (have e := hc13; simp only [show ((j : Int) - 1).toNat = j - 1 from by omega, Int.toNat_natCast, Nat.zero_add] at e; unfold geB; rw [e]; rfl)⟩); exact hser j (by omega)⟩ (by omega) rfl ⟨rfl, rfl, rfl, rfl, rfl, rfl, rfl, rfl, rfl, trivial⟩ trivial
        · skip
          try simp only [decide_eq_true_eq, decide_eq_false_iff_not, Bool.not_eq_true', Bool.not_eq_false', beq_iff_eq, bne_iff_ne, beq_eq_false_iff_ne, Bool.and_eq_true, Bool.or_eq_true, Bool.and_eq_false_iff, Bool.or_eq_false_iff, ge_iff_le, gt_iff_lt, Int.not_lt, Int.not_le, ne_eq, Decidable.not_not, bne_eq_false_iff_eq] at hc9
          refine W_exit ?_
          refine tx ?_
          refine tx ?_
          refine bx ?_
          refine tn ?_
          refine r1 ?_
          refine s1 7 8 1 rfl rfl rfl rfl rfl rfl trivial ?_
          refine e1 16 rfl ?_
          refine keep [0, 3, 4, 7, 11, 12, 13] rfl ?_
          refine W_block ?_
          refine loop (α := Nat) 0 (fun q => [(0, serV ss ss.length), (3, SV.i i), (4, tagsV (ss.getD i [])), (7, SV.i q), (11, serV ss ss.length), (12, SV.i ss.length), (13, SV.i i)]) (fun q => []) (fun q => q ≤ i ∧ ∀ j, j < q → ¬ (ss.getD i []) = ss.getD j []) (fun q => i - q) (0) [] (fun _ => rfl) ⟨Nat.zero_le _, fun j hj => by omega⟩ rfl ⟨rfl, rfl, rfl, rfl, rfl, rfl, rfl, trivial⟩ trivial (fun q hx => ?_)
          obtain ⟨hqn, hnew⟩ := hx
          refine W_seq ?_
          refine r1 ?_
          refine s1 52 0 1 rfl rfl rfl rfl rfl rfl trivial ?_
          refine s1 53 8 2 rfl rfl rfl rfl rfl rfl trivial ?_
          refine s1 54 16 3 rfl rfl rfl rfl rfl rfl (by first | trivial | omega | (simp only [List.length_map, List.length_append, List.length_cons, List.length_nil] at *; omega)) ?_
          refine e1 24 rfl ?_
          refine keep [0, 3, 4, 7, 11, 12, 13, 54] rfl ?_
          refine q1 rfl (fun hc17 => ?_) (fun hc17 => ?_)
          · skip
            try simp only [decide_eq_true_eq, decide_eq_false_iff_not, Bool.not_eq_true', Bool.not_eq_false', beq_iff_eq, bne_iff_ne, beq_eq_false_iff_ne, Bool.and_eq_true, Bool.or_eq_true, Bool.and_eq_false_iff, Bool.or_eq_false_iff, ge_iff_le, gt_iff_lt, Int.not_lt, Int.not_le, ne_eq, Decidable.not_not, bne_eq_false_iff_eq] at hc17
            refine W_skip ?_
            refine tn ?_
            refine W_seq ?_
            refine W_block ?_
            refine r1 ?_
            refine s1 57 24 1 rfl rfl rfl rfl rfl rfl trivial ?_
            refine s1 58 32 2 rfl rfl rfl rfl rfl rfl trivial ?_
            refine s1 59 40 3 rfl rfl rfl rfl rfl rfl (by first | trivial | omega | (simp only [List.length_map, List.length_append, List.length_cons, List.length_nil] at *; omega)) ?_
            refine s1 60 48 4 rfl rfl rfl rfl rfl rfl (by first | trivial | omega | (simp only [List.length_map, List.length_append, List.length_cons, List.length_nil] at *; omega)) ?_
            refine val 60 (tagsV (ss.getD q [])) rfl (by first | rfl | (unfold tagsV; simp only [Int.toNat_natCast, Nat.zero_add]; rfl)) ?_
            refine s1 61 56 5 rfl rfl rfl rfl rfl rfl trivial ?_
            refine c1 (sameTags_any (ss.getD q []) (ss.getD i []) (hin.l q) (decide (ss.getD q [] = (ss.getD i []))) decide_eq_true_iff) [] [] 62 64 6 rfl rfl rfl rfl rfl rfl rfl rfl Try.func45 rfl rfl rfl rfl trivial rfl rfl ?_
            refine e1 72 rfl ?_
            refine keep [0, 3, 4, 7, 11, 12, 13, 62] rfl ?_
            refine q1 rfl (fun hc19 => ?_) (fun hc19 => ?_)
            · skip
              try simp only [decide_eq_true_eq, decide_eq_false_iff_not, Bool.not_eq_true', Bool.not_eq_false', beq_iff_eq, bne_iff_ne, beq_eq_false_iff_ne, Bool.and_eq_true, Bool.or_eq_true, Bool.and_eq_false_iff, Bool.or_eq_false_iff, ge_iff_le, gt_iff_lt, Int.not_lt, Int.not_le, ne_eq, Decidable.not_not, bne_eq_false_iff_eq] at hc19
              refine r1 ?_
              refine s1 2 72 1 rfl rfl rfl rfl rfl rfl trivial ?_
              refine e1 80 rfl ?_
              refine keep [2] rfl ?_
              refine W_ret ?_
              refine br ?_
              refine tr ?_
              refine tr ?_
              refine br ?_
              refine br ?_
              refine tr ?_
              refine tr ?_
              refine br ?_
              refine tr ?_
              exact out1 2 (SV.b p) (π := []) (hout := []) Try.results21 rfl (by have : p = false := (by rw [← Bool.not_eq_true, hp]; rintro ⟨ht0, ht⟩; have hs := ht i (by omega); first | (have := hs.len; omega) | (have hk := hs.tag k (by omega); have h1 := hk.key; have h2 := hk.val; have h3 := hk.asc; first | (have h4 := h3 (by omega); have e := hc13; simp only [show ((k : Int) - 1).toNat = k - 1 from by omega, Int.toNat_natCast, Nat.zero_add] at e; unfold geB at h4; rw [e] at h4; cases h4) | (simp_all; done)) | (have h5 := hs.new q (by omega); have e2 := hc19; first | exact h5 e2.symm | (simp only [Int.toNat_natCast, Nat.zero_add] at e2; exact h5 e2.symm)) | (have h5 := hs.new; rw [← firstEq_neg] at h5; omega)); rw [this]; rfl) rfl rfl trivial ⟨rfl, rfl⟩
            · skip
              try simp only [decide_eq_true_eq, decide_eq_false_iff_not, Bool.not_eq_true', Bool.not_eq_false', beq_iff_eq, bne_iff_ne, beq_eq_false_iff_ne, Bool.and_eq_true, Bool.or_eq_true, Bool.and_eq_false_iff, Bool.or_eq_false_iff, ge_iff_le, gt_iff_lt, Int.not_lt, Int.not_le, ne_eq, Decidable.not_not, bne_eq_false_iff_eq] at hc19
              refine W_skip ?_
              refine bn ?_
              refine tn ?_
              refine r0 ?_
              refine s1 55 72 1 rfl rfl rfl rfl rfl rfl trivial ?_
              refine sA 56 80 2 rfl rfl rfl rfl rfl rfl rfl rfl rfl (by unfold inRange; omega) ?_
              refine s1 7 88 3 rfl rfl rfl rfl rfl rfl trivial ?_
              refine e1 96 rfl ?_
              refine tn ?_
              exact again (q + 1) [] ⟨by omega, fun j hj => by by_cases e : j = q; (subst e; have e2 := hc19; first | exact fun h => e2 h.symm | (simp only [Int.toNat_natCast, Nat.zero_add] at e2; exact fun h => e2 h.symm)); exact hnew j (by omega)⟩ (by omega) rfl ⟨rfl, rfl, rfl, rfl, rfl, rfl, rfl, trivial⟩ trivial
          · skip
            try simp only [decide_eq_true_eq, decide_eq_false_iff_not, Bool.not_eq_true', Bool.not_eq_false', beq_iff_eq, bne_iff_ne, beq_eq_false_iff_ne, Bool.and_eq_true, Bool.or_eq_true, Bool.and_eq_false_iff, Bool.or_eq_false_iff, ge_iff_le, gt_iff_lt, Int.not_lt, Int.not_le, ne_eq, Decidable.not_not, bne_eq_false_iff_eq] at hc17
            refine W_exit ?_
            refine tx ?_
            refine tx ?_
            refine bx ?_
            refine bn ?_
            refine tn ?_
            refine r0 ?_
            refine sA 63 24 1 rfl rfl rfl rfl rfl rfl rfl rfl rfl (by unfold inRange; omega) ?_
            refine s1 13 32 2 rfl rfl rfl rfl rfl rfl trivial ?_
            refine e1 40 rfl ?_
            refine tn ?_
            exact again (i + 1) [] ⟨by omega, fun j hj => by by_cases e : j = i; (subst e; exact ⟨by omega, fun q hq => hser q (by omega), fun q hq => hnew q (by omega)⟩); exact hno j (by omega)⟩ (by omega) rfl ⟨rfl, rfl, rfl, rfl, trivial⟩ trivial
    · skip
      try simp only [decide_eq_true_eq, decide_eq_false_iff_not, Bool.not_eq_true', Bool.not_eq_false', beq_iff_eq, bne_iff_ne, beq_eq_false_iff_ne, Bool.and_eq_true, Bool.or_eq_true, Bool.and_eq_false_iff, Bool.or_eq_false_iff, ge_iff_le, gt_iff_lt, Int.not_lt, Int.not_le, ne_eq, Decidable.not_not, bne_eq_false_iff_eq] at hc4
      refine W_exit ?_
      refine tx ?_
      refine tx ?_
      refine bx ?_
      refine tn ?_
      refine r1 ?_
      refine s1 2 8 1 rfl rfl rfl rfl rfl rfl trivial ?_
      refine e1 16 rfl ?_
      refine keep [2] rfl ?_
      refine W_ret ?_
      exact out1 2 (SV.b p) (π := []) (hout := []) Try.results21 rfl (by rw [hp.2 ⟨by omega, fun j hj => hno j (by omega)⟩]; rfl) rfl rfl trivial ⟨rfl, rfl⟩

theorem lawTagsMay_any (ss : List (List TagD)) (hin : TagsIn ss) : Spec Try.prog GT 8 [serV ss ss.length] [] (fun r _ => r = SV.b true) := by
  obtain ⟨p, hp⟩ : ∃ p : Bool, p = true ↔ TagsOk ss := (by by_cases h : TagsOk ss; exact ⟨true, by simp [h]⟩; exact ⟨false, by simp [h]⟩)
  refine start 8 0 Try.func8 rfl rfl rfl rfl ?_
  refine r1 ?_
  refine s1 2 0 1 rfl rfl rfl rfl rfl rfl trivial ?_
  refine e1 8 rfl ?_
  refine keep [0] rfl ?_
  refine r1 ?_
  refine s1 3 8 1 rfl rfl rfl rfl rfl rfl trivial ?_
  refine c1 (tagsMay_any ss hin p hp) [] [] 4 16 2 rfl rfl rfl rfl rfl rfl rfl rfl Try.func20 rfl rfl rfl rfl trivial rfl rfl ?_
  refine s1 5 24 3 rfl rfl rfl rfl rfl rfl trivial ?_
  refine c1 (refTagsMay_any ss hin p hp) [] [] 6 32 4 rfl rfl rfl rfl rfl rfl rfl rfl Try.func21 rfl rfl rfl rfl trivial rfl rfl ?_
  refine s1 7 40 5 rfl rfl rfl rfl rfl rfl (by first | trivial | omega | (simp only [List.length_map, List.length_append, List.length_cons, List.length_nil] at *; omega)) ?_
  refine s1 2 48 6 rfl rfl rfl rfl rfl rfl trivial ?_
  refine e1 56 rfl ?_
  refine keep [2] rfl ?_
  refine W_ret ?_
  exact out1 2 (SV.b true) (π := []) (hout := []) Try.results8 rfl (by first | (simp; done) | (simp; rfl) | (cases p <;> rfl)) rfl rfl trivial rfl

end Go.Proofs.Ytlhncpbcbpdcfaa.Nice
