/- Names and tags: the program's functions and the document's. -/
import Derived.Test.YtlhncpbcbpdcfaaProg
import Derived.Test.YtlhncpbcbpdcfaaNiceN
namespace Go.Proofs.Ytlhncpbcbpdcfaa.Nice
open Go
set_option linter.unusedVariables false
set_option linter.unusedSimpArgs false
set_option maxRecDepth 100000
set_option maxHeartbeats 4000000
def GT : Nat → SV := fun _ => .any
def byteAt (s : ByteArray) (i : Nat) : Int := ((s.data.getD i 0).toNat : Int)
def chB (c : Int) : Bool := (decide (97 ≤ c) && decide (c ≤ 122)) || (decide (48 ≤ c) && decide (c ≤ 57))
def nameB (s : ByteArray) : Bool := (decide (1 ≤ s.size) && decide (s.size ≤ 8)) && (List.range s.size).all fun i => chB (byteAt s i)
theorem name_not {s : ByteArray} {n : Nat} (h : n < s.size) (hc : chB (byteAt s n) = false) : nameB s = false := by
  have : ((List.range s.size).all fun i => chB (byteAt s i)) = false := by
    rw [List.all_eq_false]; exact ⟨n, by simpa using h, by rw [hc]; decide⟩
  unfold nameB; rw [this]; simp
theorem name_all {s : ByteArray} (h : ∀ j, j < s.size → chB (byteAt s j) = true) : nameB s = (decide (1 ≤ s.size) && decide (s.size ≤ 8)) := by
  have : ((List.range s.size).all fun i => chB (byteAt s i)) = true := by
    rw [List.all_eq_true]; intro j hj; exact h j (by simpa using hj)
  unfold nameB; rw [this]; simp
theorem ch_iff {c : Int} : chB c = true ↔ (97 ≤ c ∧ c ≤ 122) ∨ (48 ≤ c ∧ c ≤ 57) := by simp [chB]

theorem name_any (s : ByteArray) (hs : s.size ≤ 9223372036854775807) : Spec Try.prog GT 40 [.d (.val (.string s))] [] (fun r ho => r = SV.b (nameB s) ∧ ho = []) := by
  refine start 35 0 Try.func40 rfl rfl rfl rfl ?_
  refine r1 ?_
  refine s1 2 0 1 rfl rfl rfl rfl rfl rfl trivial ?_
  refine e1 8 rfl ?_
  refine keep [0] rfl ?_
  refine W_seq ?_
  refine r1 ?_
  refine s1 5 8 1 rfl rfl rfl rfl rfl rfl trivial ?_
  refine s1 6 16 2 rfl rfl rfl rfl rfl rfl trivial ?_
  refine s1 7 24 3 rfl rfl rfl rfl rfl rfl (by first | trivial | omega | (simp only [List.length_map, List.length_append, List.length_cons, List.length_nil] at *; omega)) ?_
  refine s1 8 32 4 rfl rfl rfl rfl rfl rfl trivial ?_
  refine e1 40 rfl ?_
  refine keep [0, 6, 7, 8] rfl ?_
  refine W_block ?_
  refine loop (α := Nat) 0 (fun n => [(0, .d (.val (.string s))), (6, .d (.vec 1 s.size (strBytesF s))), (7, SV.i s.size), (8, SV.i n)]) (fun n => []) (fun n => n ≤ s.size ∧ ∀ j, j < n → chB (byteAt s j) = true) (fun n => s.size - n) (0) [] (fun _ => rfl) ⟨Nat.zero_le _, fun j hj => by omega⟩ rfl ⟨rfl, rfl, rfl, rfl, trivial⟩ trivial (fun n hx => ?_)
  obtain ⟨hn, hno⟩ := hx
  refine r1 ?_
  refine s1 9 0 1 rfl rfl rfl rfl rfl rfl (by first | trivial | omega | (simp only [List.length_map, List.length_append, List.length_cons, List.length_nil] at *; omega)) ?_
  refine e1 8 rfl ?_
  refine keep [0, 6, 7, 8, 9] rfl ?_
  refine W_seq ?_
  refine q1 rfl (fun hc2 => ?_) (fun hc2 => ?_)
  · skip
    try simp only [decide_eq_true_eq, decide_eq_false_iff_not, Bool.not_eq_true', Bool.not_eq_false', beq_iff_eq, bne_iff_ne, beq_eq_false_iff_ne, Bool.and_eq_true, Bool.or_eq_true, Bool.and_eq_false_iff, Bool.or_eq_false_iff, ge_iff_le, gt_iff_lt, Int.not_lt, Int.not_le, ne_eq, Decidable.not_not, bne_eq_false_iff_eq] at hc2
    refine W_skip ?_
    refine tn ?_
    refine W_seq ?_
    refine W_block ?_
    refine r1 ?_
    refine s1 10 8 1 rfl rfl rfl rfl rfl rfl (by first | trivial | omega | (simp only [List.length_map, List.length_append, List.length_cons, List.length_nil] at *; omega)) ?_
    refine s1 11 16 2 rfl rfl rfl rfl rfl rfl (by first | trivial | omega | (simp only [List.length_map, List.length_append, List.length_cons, List.length_nil] at *; omega)) ?_
    refine s1 4 24 3 rfl rfl rfl rfl rfl rfl trivial ?_
    refine e1 32 rfl ?_
    refine keep [0, 4, 6, 7, 8] rfl ?_
    refine r1 ?_
    refine s1 12 32 1 rfl rfl rfl rfl rfl rfl trivial ?_
    refine s1 13 40 2 rfl rfl rfl rfl rfl rfl (by first | trivial | omega | (simp only [List.length_map, List.length_append, List.length_cons, List.length_nil] at *; omega)) ?_
    refine s1 14 48 3 rfl rfl rfl rfl rfl rfl trivial ?_
    refine ask 14 rfl (fun hg4_14 => ?_) (fun hg4_14 => ?_)
    · skip
      try simp only [decide_eq_true_eq, decide_eq_false_iff_not, Bool.not_eq_true', Bool.not_eq_false', beq_iff_eq, bne_iff_ne, beq_eq_false_iff_ne, Bool.and_eq_true, Bool.or_eq_true, Bool.and_eq_false_iff, Bool.or_eq_false_iff, ge_iff_le, gt_iff_lt, Int.not_lt, Int.not_le, ne_eq, Decidable.not_not, bne_eq_false_iff_eq] at hg4_14
      refine g0 2 false 14 15 4 rfl rfl rfl rfl rfl rfl ?_
      refine g0 2 false 14 16 5 rfl rfl rfl rfl rfl rfl ?_
      refine s1 17 72 6 rfl rfl rfl rfl rfl rfl trivial ?_
      refine s1 18 80 7 rfl rfl rfl rfl rfl rfl trivial ?_
      refine g1 6 true 18 19 8 rfl rfl rfl rfl rfl ?_
      refine s1 19 88 8 rfl rfl rfl rfl rfl rfl trivial ?_
      refine g1 6 true 18 20 9 rfl rfl rfl rfl rfl ?_
      refine s1 20 96 9 rfl rfl rfl rfl rfl rfl (by first | trivial | omega | (simp only [List.length_map, List.length_append, List.length_cons, List.length_nil] at *; omega)) ?_
      refine g1 6 true 18 21 10 rfl rfl rfl rfl rfl ?_
      refine s1 21 104 10 rfl rfl rfl rfl rfl rfl trivial ?_
      refine ask 21 rfl (fun hg4_21 => ?_) (fun hg4_21 => ?_)
      · skip
        try simp only [decide_eq_true_eq, decide_eq_false_iff_not, Bool.not_eq_true', Bool.not_eq_false', beq_iff_eq, bne_iff_ne, beq_eq_false_iff_ne, Bool.and_eq_true, Bool.or_eq_true, Bool.and_eq_false_iff, Bool.or_eq_false_iff, ge_iff_le, gt_iff_lt, Int.not_lt, Int.not_le, ne_eq, Decidable.not_not, bne_eq_false_iff_eq] at hg4_21
        refine g0 9 false 21 22 11 rfl rfl rfl rfl rfl rfl ?_
        refine g0 9 false 21 23 12 rfl rfl rfl rfl rfl rfl ?_
        refine g1 6 true 18 24 13 rfl rfl rfl rfl rfl ?_
        refine s1 24 128 13 rfl rfl rfl rfl rfl rfl trivial ?_
        refine s1 25 136 14 rfl rfl rfl rfl rfl rfl trivial ?_
        refine e1 144 rfl ?_
        refine keep [0, 6, 7, 8, 25] rfl ?_
        refine q1 rfl (fun hc4 => ?_) (fun hc4 => ?_)
        · skip
          try simp only [decide_eq_true_eq, decide_eq_false_iff_not, Bool.not_eq_true', Bool.not_eq_false', beq_iff_eq, bne_iff_ne, beq_eq_false_iff_ne, Bool.and_eq_true, Bool.or_eq_true, Bool.and_eq_false_iff, Bool.or_eq_false_iff, ge_iff_le, gt_iff_lt, Int.not_lt, Int.not_le, ne_eq, Decidable.not_not, bne_eq_false_iff_eq] at hc4
          refine r1 ?_
          refine s1 2 144 1 rfl rfl rfl rfl rfl rfl trivial ?_
          refine e1 152 rfl ?_
          refine keep [2] rfl ?_
          refine W_ret ?_
          refine br ?_
          refine tr ?_
          refine tr ?_
          refine br ?_
          refine tr ?_
          exact out1 2 (SV.b (nameB s)) (π := []) (hout := []) Try.results40 rfl (by have hb : chB (byteAt s n) = false := (by rw [← Bool.not_eq_true, ch_iff]; unfold byteAt; (try simp only [Int.toNat_natCast] at *); omega); show SV.b _ = SV.b _; refine congrArg SV.b ?_; rw [name_not (n := n) (by omega) hb]) rfl rfl trivial ⟨rfl, rfl⟩
        · skip
          exact absurd hc4 (by decide)
      · skip
        try simp only [decide_eq_true_eq, decide_eq_false_iff_not, Bool.not_eq_true', Bool.not_eq_false', beq_iff_eq, bne_iff_ne, beq_eq_false_iff_ne, Bool.and_eq_true, Bool.or_eq_true, Bool.and_eq_false_iff, Bool.or_eq_false_iff, ge_iff_le, gt_iff_lt, Int.not_lt, Int.not_le, ne_eq, Decidable.not_not, bne_eq_false_iff_eq] at hg4_21
        refine g1 9 false 21 22 11 rfl rfl rfl rfl rfl ?_
        refine s1 22 112 11 rfl rfl rfl rfl rfl rfl trivial ?_
        refine g1 9 false 21 23 12 rfl rfl rfl rfl rfl ?_
        refine s1 23 120 12 rfl rfl rfl rfl rfl rfl (by first | trivial | omega | (simp only [List.length_map, List.length_append, List.length_cons, List.length_nil] at *; omega)) ?_
        refine g1 6 true 18 24 13 rfl rfl rfl rfl rfl ?_
        refine s1 24 128 13 rfl rfl rfl rfl rfl rfl trivial ?_
        refine s1 25 136 14 rfl rfl rfl rfl rfl rfl trivial ?_
        refine e1 144 rfl ?_
        refine keep [0, 6, 7, 8, 25] rfl ?_
        refine q1 rfl (fun hc4 => ?_) (fun hc4 => ?_)
        · skip
          try simp only [decide_eq_true_eq, decide_eq_false_iff_not, Bool.not_eq_true', Bool.not_eq_false', beq_iff_eq, bne_iff_ne, beq_eq_false_iff_ne, Bool.and_eq_true, Bool.or_eq_true, Bool.and_eq_false_iff, Bool.or_eq_false_iff, ge_iff_le, gt_iff_lt, Int.not_lt, Int.not_le, ne_eq, Decidable.not_not, bne_eq_false_iff_eq] at hc4
          refine r1 ?_
          refine s1 2 144 1 rfl rfl rfl rfl rfl rfl trivial ?_
          refine e1 152 rfl ?_
          refine keep [2] rfl ?_
          refine W_ret ?_
          refine br ?_
          refine tr ?_
          refine tr ?_
          refine br ?_
          refine tr ?_
          exact out1 2 (SV.b (nameB s)) (π := []) (hout := []) Try.results40 rfl (by have hb : chB (byteAt s n) = false := (by rw [← Bool.not_eq_true, ch_iff]; unfold byteAt; (try simp only [Int.toNat_natCast] at *); omega); show SV.b _ = SV.b _; refine congrArg SV.b ?_; rw [name_not (n := n) (by omega) hb]) rfl rfl trivial ⟨rfl, rfl⟩
        · skip
          try simp only [decide_eq_true_eq, decide_eq_false_iff_not, Bool.not_eq_true', Bool.not_eq_false', beq_iff_eq, bne_iff_ne, beq_eq_false_iff_ne, Bool.and_eq_true, Bool.or_eq_true, Bool.and_eq_false_iff, Bool.or_eq_false_iff, ge_iff_le, gt_iff_lt, Int.not_lt, Int.not_le, ne_eq, Decidable.not_not, bne_eq_false_iff_eq] at hc4
          refine W_skip ?_
          refine bn ?_
          refine tn ?_
          refine r0 ?_
          refine sA 26 144 1 rfl rfl rfl rfl rfl rfl rfl rfl rfl (by unfold inRange; omega) ?_
          refine s1 8 152 2 rfl rfl rfl rfl rfl rfl trivial ?_
          refine e1 160 rfl ?_
          refine tn ?_
          exact again (n + 1) [] ⟨by omega, fun j hj => by by_cases e : j = n; (subst e; clear hno; exact (by rw [ch_iff]; unfold byteAt; (try simp only [Int.toNat_natCast] at *); omega)); exact hno j (by omega)⟩ (by omega) rfl ⟨rfl, rfl, rfl, rfl, trivial⟩ trivial
    · skip
      try simp only [decide_eq_true_eq, decide_eq_false_iff_not, Bool.not_eq_true', Bool.not_eq_false', beq_iff_eq, bne_iff_ne, beq_eq_false_iff_ne, Bool.and_eq_true, Bool.or_eq_true, Bool.and_eq_false_iff, Bool.or_eq_false_iff, ge_iff_le, gt_iff_lt, Int.not_lt, Int.not_le, ne_eq, Decidable.not_not, bne_eq_false_iff_eq] at hg4_14
      refine g1 2 false 14 15 4 rfl rfl rfl rfl rfl ?_
      refine s1 15 56 4 rfl rfl rfl rfl rfl rfl trivial ?_
      refine g1 2 false 14 16 5 rfl rfl rfl rfl rfl ?_
      refine s1 16 64 5 rfl rfl rfl rfl rfl rfl (by first | trivial | omega | (simp only [List.length_map, List.length_append, List.length_cons, List.length_nil] at *; omega)) ?_
      refine s1 17 72 6 rfl rfl rfl rfl rfl rfl trivial ?_
      refine s1 18 80 7 rfl rfl rfl rfl rfl rfl trivial ?_
      refine ask 18 rfl (fun hg4_18 => ?_) (fun hg4_18 => ?_)
      · skip
        try simp only [decide_eq_true_eq, decide_eq_false_iff_not, Bool.not_eq_true', Bool.not_eq_false', beq_iff_eq, bne_iff_ne, beq_eq_false_iff_ne, Bool.and_eq_true, Bool.or_eq_true, Bool.and_eq_false_iff, Bool.or_eq_false_iff, ge_iff_le, gt_iff_lt, Int.not_lt, Int.not_le, ne_eq, Decidable.not_not, bne_eq_false_iff_eq] at hg4_18
        refine g1 6 true 18 19 8 rfl rfl rfl rfl rfl ?_
        refine s1 19 88 8 rfl rfl rfl rfl rfl rfl trivial ?_
        refine g1 6 true 18 20 9 rfl rfl rfl rfl rfl ?_
        refine s1 20 96 9 rfl rfl rfl rfl rfl rfl (by first | trivial | omega | (simp only [List.length_map, List.length_append, List.length_cons, List.length_nil] at *; omega)) ?_
        refine g1 6 true 18 21 10 rfl rfl rfl rfl rfl ?_
        refine s1 21 104 10 rfl rfl rfl rfl rfl rfl trivial ?_
        refine ask 21 rfl (fun hg4_21 => ?_) (fun hg4_21 => ?_)
        · skip
          try simp only [decide_eq_true_eq, decide_eq_false_iff_not, Bool.not_eq_true', Bool.not_eq_false', beq_iff_eq, bne_iff_ne, beq_eq_false_iff_ne, Bool.and_eq_true, Bool.or_eq_true, Bool.and_eq_false_iff, Bool.or_eq_false_iff, ge_iff_le, gt_iff_lt, Int.not_lt, Int.not_le, ne_eq, Decidable.not_not, bne_eq_false_iff_eq] at hg4_21
          refine g0 9 false 21 22 11 rfl rfl rfl rfl rfl rfl ?_
          refine g0 9 false 21 23 12 rfl rfl rfl rfl rfl rfl ?_
          refine g1 6 true 18 24 13 rfl rfl rfl rfl rfl ?_
          refine s1 24 128 13 rfl rfl rfl rfl rfl rfl trivial ?_
          refine s1 25 136 14 rfl rfl rfl rfl rfl rfl trivial ?_
          refine e1 144 rfl ?_
          refine keep [0, 6, 7, 8, 25] rfl ?_
          refine q1 rfl (fun hc4 => ?_) (fun hc4 => ?_)
          · skip
            try simp only [decide_eq_true_eq, decide_eq_false_iff_not, Bool.not_eq_true', Bool.not_eq_false', beq_iff_eq, bne_iff_ne, beq_eq_false_iff_ne, Bool.and_eq_true, Bool.or_eq_true, Bool.and_eq_false_iff, Bool.or_eq_false_iff, ge_iff_le, gt_iff_lt, Int.not_lt, Int.not_le, ne_eq, Decidable.not_not, bne_eq_false_iff_eq] at hc4
            refine r1 ?_
            refine s1 2 144 1 rfl rfl rfl rfl rfl rfl trivial ?_
            refine e1 152 rfl ?_
            refine keep [2] rfl ?_
            refine W_ret ?_
            refine br ?_
            refine tr ?_
            refine tr ?_
            refine br ?_
            refine tr ?_
            exact out1 2 (SV.b (nameB s)) (π := []) (hout := []) Try.results40 rfl (by have hb : chB (byteAt s n) = false := (by rw [← Bool.not_eq_true, ch_iff]; unfold byteAt; (try simp only [Int.toNat_natCast] at *); omega); show SV.b _ = SV.b _; refine congrArg SV.b ?_; rw [name_not (n := n) (by omega) hb]) rfl rfl trivial ⟨rfl, rfl⟩
          · skip
            exact absurd hc4 (by decide)
        · skip
          try simp only [decide_eq_true_eq, decide_eq_false_iff_not, Bool.not_eq_true', Bool.not_eq_false', beq_iff_eq, bne_iff_ne, beq_eq_false_iff_ne, Bool.and_eq_true, Bool.or_eq_true, Bool.and_eq_false_iff, Bool.or_eq_false_iff, ge_iff_le, gt_iff_lt, Int.not_lt, Int.not_le, ne_eq, Decidable.not_not, bne_eq_false_iff_eq] at hg4_21
          refine g1 9 false 21 22 11 rfl rfl rfl rfl rfl ?_
          refine s1 22 112 11 rfl rfl rfl rfl rfl rfl trivial ?_
          refine g1 9 false 21 23 12 rfl rfl rfl rfl rfl ?_
          refine s1 23 120 12 rfl rfl rfl rfl rfl rfl (by first | trivial | omega | (simp only [List.length_map, List.length_append, List.length_cons, List.length_nil] at *; omega)) ?_
          refine g1 6 true 18 24 13 rfl rfl rfl rfl rfl ?_
          refine s1 24 128 13 rfl rfl rfl rfl rfl rfl trivial ?_
          refine s1 25 136 14 rfl rfl rfl rfl rfl rfl trivial ?_
          refine e1 144 rfl ?_
          refine keep [0, 6, 7, 8, 25] rfl ?_
          refine q1 rfl (fun hc4 => ?_) (fun hc4 => ?_)
          · skip
            try simp only [decide_eq_true_eq, decide_eq_false_iff_not, Bool.not_eq_true', Bool.not_eq_false', beq_iff_eq, bne_iff_ne, beq_eq_false_iff_ne, Bool.and_eq_true, Bool.or_eq_true, Bool.and_eq_false_iff, Bool.or_eq_false_iff, ge_iff_le, gt_iff_lt, Int.not_lt, Int.not_le, ne_eq, Decidable.not_not, bne_eq_false_iff_eq] at hc4
            refine r1 ?_
            refine s1 2 144 1 rfl rfl rfl rfl rfl rfl trivial ?_
            refine e1 152 rfl ?_
            refine keep [2] rfl ?_
            refine W_ret ?_
            refine br ?_
            refine tr ?_
            refine tr ?_
            refine br ?_
            refine tr ?_
            exact out1 2 (SV.b (nameB s)) (π := []) (hout := []) Try.results40 rfl (by have hb : chB (byteAt s n) = false := (by rw [← Bool.not_eq_true, ch_iff]; unfold byteAt; (try simp only [Int.toNat_natCast] at *); omega); show SV.b _ = SV.b _; refine congrArg SV.b ?_; rw [name_not (n := n) (by omega) hb]) rfl rfl trivial ⟨rfl, rfl⟩
          · skip
            try simp only [decide_eq_true_eq, decide_eq_false_iff_not, Bool.not_eq_true', Bool.not_eq_false', beq_iff_eq, bne_iff_ne, beq_eq_false_iff_ne, Bool.and_eq_true, Bool.or_eq_true, Bool.and_eq_false_iff, Bool.or_eq_false_iff, ge_iff_le, gt_iff_lt, Int.not_lt, Int.not_le, ne_eq, Decidable.not_not, bne_eq_false_iff_eq] at hc4
            refine W_skip ?_
            refine bn ?_
            refine tn ?_
            refine r0 ?_
            refine sA 26 144 1 rfl rfl rfl rfl rfl rfl rfl rfl rfl (by unfold inRange; omega) ?_
            refine s1 8 152 2 rfl rfl rfl rfl rfl rfl trivial ?_
            refine e1 160 rfl ?_
            refine tn ?_
            exact again (n + 1) [] ⟨by omega, fun j hj => by by_cases e : j = n; (subst e; clear hno; exact (by rw [ch_iff]; unfold byteAt; (try simp only [Int.toNat_natCast] at *); omega)); exact hno j (by omega)⟩ (by omega) rfl ⟨rfl, rfl, rfl, rfl, trivial⟩ trivial
      · skip
        try simp only [decide_eq_true_eq, decide_eq_false_iff_not, Bool.not_eq_true', Bool.not_eq_false', beq_iff_eq, bne_iff_ne, beq_eq_false_iff_ne, Bool.and_eq_true, Bool.or_eq_true, Bool.and_eq_false_iff, Bool.or_eq_false_iff, ge_iff_le, gt_iff_lt, Int.not_lt, Int.not_le, ne_eq, Decidable.not_not, bne_eq_false_iff_eq] at hg4_18
        refine g0 6 true 18 19 8 rfl rfl rfl rfl rfl rfl ?_
        refine g0 6 true 18 20 9 rfl rfl rfl rfl rfl rfl ?_
        refine g0 6 true 18 21 10 rfl rfl rfl rfl rfl rfl ?_
        refine gz 9 false 21 22 11 rfl rfl rfl rfl rfl rfl ?_
        refine gz 9 false 21 23 12 rfl rfl rfl rfl rfl rfl ?_
        refine g0 6 true 18 24 13 rfl rfl rfl rfl rfl rfl ?_
        refine s1 25 136 14 rfl rfl rfl rfl rfl rfl trivial ?_
        refine e1 144 rfl ?_
        refine keep [0, 6, 7, 8, 25] rfl ?_
        refine q1 rfl (fun hc4 => ?_) (fun hc4 => ?_)
        · skip
          exact absurd hc4 (by decide)
        · skip
          try simp only [decide_eq_true_eq, decide_eq_false_iff_not, Bool.not_eq_true', Bool.not_eq_false', beq_iff_eq, bne_iff_ne, beq_eq_false_iff_ne, Bool.and_eq_true, Bool.or_eq_true, Bool.and_eq_false_iff, Bool.or_eq_false_iff, ge_iff_le, gt_iff_lt, Int.not_lt, Int.not_le, ne_eq, Decidable.not_not, bne_eq_false_iff_eq] at hc4
          refine W_skip ?_
          refine bn ?_
          refine tn ?_
          refine r0 ?_
          refine sA 26 144 1 rfl rfl rfl rfl rfl rfl rfl rfl rfl (by unfold inRange; omega) ?_
          refine s1 8 152 2 rfl rfl rfl rfl rfl rfl trivial ?_
          refine e1 160 rfl ?_
          refine tn ?_
          exact again (n + 1) [] ⟨by omega, fun j hj => by by_cases e : j = n; (subst e; clear hno; exact (by rw [ch_iff]; unfold byteAt; (try simp only [Int.toNat_natCast] at *); omega)); exact hno j (by omega)⟩ (by omega) rfl ⟨rfl, rfl, rfl, rfl, trivial⟩ trivial
  · skip
    try simp only [decide_eq_true_eq, decide_eq_false_iff_not, Bool.not_eq_true', Bool.not_eq_false', beq_iff_eq, bne_iff_ne, beq_eq_false_iff_ne, Bool.and_eq_true, Bool.or_eq_true, Bool.and_eq_false_iff, Bool.or_eq_false_iff, ge_iff_le, gt_iff_lt, Int.not_lt, Int.not_le, ne_eq, Decidable.not_not, bne_eq_false_iff_eq] at hc2
    refine W_exit ?_
    refine tx ?_
    refine tx ?_
    refine bx ?_
    refine tn ?_
    refine r1 ?_
    refine s1 27 8 1 rfl rfl rfl rfl rfl rfl trivial ?_
    refine s1 28 16 2 rfl rfl rfl rfl rfl rfl (by first | trivial | omega | (simp only [List.length_map, List.length_append, List.length_cons, List.length_nil] at *; omega)) ?_
    refine s1 29 24 3 rfl rfl rfl rfl rfl rfl (by first | trivial | omega | (simp only [List.length_map, List.length_append, List.length_cons, List.length_nil] at *; omega)) ?_
    refine s1 30 32 4 rfl rfl rfl rfl rfl rfl trivial ?_
    refine ask 30 rfl (fun hg7_30 => ?_) (fun hg7_30 => ?_)
    · skip
      try simp only [decide_eq_true_eq, decide_eq_false_iff_not, Bool.not_eq_true', Bool.not_eq_false', beq_iff_eq, bne_iff_ne, beq_eq_false_iff_ne, Bool.and_eq_true, Bool.or_eq_true, Bool.and_eq_false_iff, Bool.or_eq_false_iff, ge_iff_le, gt_iff_lt, Int.not_lt, Int.not_le, ne_eq, Decidable.not_not, bne_eq_false_iff_eq] at hg7_30
      refine g1 3 true 30 31 5 rfl rfl rfl rfl rfl ?_
      refine s1 31 40 5 rfl rfl rfl rfl rfl rfl trivial ?_
      refine g1 3 true 30 32 6 rfl rfl rfl rfl rfl ?_
      refine s1 32 48 6 rfl rfl rfl rfl rfl rfl (by first | trivial | omega | (simp only [List.length_map, List.length_append, List.length_cons, List.length_nil] at *; omega)) ?_
      refine g1 3 true 30 33 7 rfl rfl rfl rfl rfl ?_
      refine s1 33 56 7 rfl rfl rfl rfl rfl rfl (by first | trivial | omega | (simp only [List.length_map, List.length_append, List.length_cons, List.length_nil] at *; omega)) ?_
      refine s1 34 64 8 rfl rfl rfl rfl rfl rfl trivial ?_
      refine s1 2 72 9 rfl rfl rfl rfl rfl rfl trivial ?_
      refine e1 80 rfl ?_
      refine keep [2] rfl ?_
      refine W_ret ?_
      exact out1 2 (SV.b (nameB s)) (π := []) (hout := []) Try.results40 rfl (by rw [name_all (fun j hj => hno j (by omega))]; show SV.b _ = SV.b _; refine congrArg SV.b (Bool.eq_iff_iff.2 ?_); simp at *; omega) rfl rfl trivial ⟨rfl, rfl⟩
    · skip
      try simp only [decide_eq_true_eq, decide_eq_false_iff_not, Bool.not_eq_true', Bool.not_eq_false', beq_iff_eq, bne_iff_ne, beq_eq_false_iff_ne, Bool.and_eq_true, Bool.or_eq_true, Bool.and_eq_false_iff, Bool.or_eq_false_iff, ge_iff_le, gt_iff_lt, Int.not_lt, Int.not_le, ne_eq, Decidable.not_not, bne_eq_false_iff_eq] at hg7_30
      refine g0 3 true 30 31 5 rfl rfl rfl rfl rfl rfl ?_
      refine g0 3 true 30 32 6 rfl rfl rfl rfl rfl rfl ?_
      refine g0 3 true 30 33 7 rfl rfl rfl rfl rfl rfl ?_
      refine s1 34 64 8 rfl rfl rfl rfl rfl rfl trivial ?_
      refine s1 2 72 9 rfl rfl rfl rfl rfl rfl trivial ?_
      refine e1 80 rfl ?_
      refine keep [2] rfl ?_
      refine W_ret ?_
      exact out1 2 (SV.b (nameB s)) (π := []) (hout := []) Try.results40 rfl (by rw [name_all (fun j hj => hno j (by omega))]; show SV.b _ = SV.b _; refine congrArg SV.b (Bool.eq_iff_iff.2 ?_); simp at *; omega) rfl rfl trivial ⟨rfl, rfl⟩

theorem good_any (s : ByteArray) (hs : s.size ≤ 9223372036854775807) : Spec Try.prog GT 44 [.d (.val (.string s))] [] (fun r ho => r = SV.b (nameB s) ∧ ho = []) := by
  refine start 41 0 Try.func44 rfl rfl rfl rfl ?_
  refine r1 ?_
  refine s1 2 0 1 rfl rfl rfl rfl rfl rfl trivial ?_
  refine e1 8 rfl ?_
  refine keep [0] rfl ?_
  refine W_seq ?_
  refine r1 ?_
  refine s1 4 8 1 rfl rfl rfl rfl rfl rfl trivial ?_
  refine s1 5 16 2 rfl rfl rfl rfl rfl rfl (by first | trivial | omega | (simp only [List.length_map, List.length_append, List.length_cons, List.length_nil] at *; omega)) ?_
  refine s1 6 24 3 rfl rfl rfl rfl rfl rfl (by first | trivial | omega | (simp only [List.length_map, List.length_append, List.length_cons, List.length_nil] at *; omega)) ?_
  refine s1 7 32 4 rfl rfl rfl rfl rfl rfl trivial ?_
  refine ask 7 rfl (fun hg1_7 => ?_) (fun hg1_7 => ?_)
  · skip
    try simp only [decide_eq_true_eq, decide_eq_false_iff_not, Bool.not_eq_true', Bool.not_eq_false', beq_iff_eq, bne_iff_ne, beq_eq_false_iff_ne, Bool.and_eq_true, Bool.or_eq_true, Bool.and_eq_false_iff, Bool.or_eq_false_iff, ge_iff_le, gt_iff_lt, Int.not_lt, Int.not_le, ne_eq, Decidable.not_not, bne_eq_false_iff_eq] at hg1_7
    refine g0 3 false 7 8 5 rfl rfl rfl rfl rfl rfl ?_
    refine g0 3 false 7 9 6 rfl rfl rfl rfl rfl rfl ?_
    refine g0 3 false 7 10 7 rfl rfl rfl rfl rfl rfl ?_
    refine s1 11 64 8 rfl rfl rfl rfl rfl rfl trivial ?_
    refine e1 72 rfl ?_
    refine keep [0, 11] rfl ?_
    refine q1 rfl (fun hc1 => ?_) (fun hc1 => ?_)
    · skip
      try simp only [decide_eq_true_eq, decide_eq_false_iff_not, Bool.not_eq_true', Bool.not_eq_false', beq_iff_eq, bne_iff_ne, beq_eq_false_iff_ne, Bool.and_eq_true, Bool.or_eq_true, Bool.and_eq_false_iff, Bool.or_eq_false_iff, ge_iff_le, gt_iff_lt, Int.not_lt, Int.not_le, ne_eq, Decidable.not_not, bne_eq_false_iff_eq] at hc1
      refine r1 ?_
      refine s1 2 72 1 rfl rfl rfl rfl rfl rfl trivial ?_
      refine e1 80 rfl ?_
      refine keep [2] rfl ?_
      refine W_ret ?_
      refine tr ?_
      exact out1 2 (SV.b (nameB s)) (π := []) (hout := []) Try.results44 rfl (by have hb : (decide (1 ≤ s.size) && decide (s.size ≤ 8)) = false := (by rw [Bool.and_eq_false_iff, decide_eq_false_iff_not, decide_eq_false_iff_not]; omega); show SV.b _ = SV.b _; refine congrArg SV.b ?_; unfold nameB; rw [hb]; rfl) rfl rfl trivial ⟨rfl, rfl⟩
    · skip
      exact absurd hc1 (by decide)
  · skip
    try simp only [decide_eq_true_eq, decide_eq_false_iff_not, Bool.not_eq_true', Bool.not_eq_false', beq_iff_eq, bne_iff_ne, beq_eq_false_iff_ne, Bool.and_eq_true, Bool.or_eq_true, Bool.and_eq_false_iff, Bool.or_eq_false_iff, ge_iff_le, gt_iff_lt, Int.not_lt, Int.not_le, ne_eq, Decidable.not_not, bne_eq_false_iff_eq] at hg1_7
    refine g1 3 false 7 8 5 rfl rfl rfl rfl rfl ?_
    refine s1 8 40 5 rfl rfl rfl rfl rfl rfl trivial ?_
    refine g1 3 false 7 9 6 rfl rfl rfl rfl rfl ?_
    refine s1 9 48 6 rfl rfl rfl rfl rfl rfl (by first | trivial | omega | (simp only [List.length_map, List.length_append, List.length_cons, List.length_nil] at *; omega)) ?_
    refine g1 3 false 7 10 7 rfl rfl rfl rfl rfl ?_
    refine s1 10 56 7 rfl rfl rfl rfl rfl rfl (by first | trivial | omega | (simp only [List.length_map, List.length_append, List.length_cons, List.length_nil] at *; omega)) ?_
    refine s1 11 64 8 rfl rfl rfl rfl rfl rfl trivial ?_
    refine e1 72 rfl ?_
    refine keep [0, 11] rfl ?_
    refine q1 rfl (fun hc1 => ?_) (fun hc1 => ?_)
    · skip
      try simp only [decide_eq_true_eq, decide_eq_false_iff_not, Bool.not_eq_true', Bool.not_eq_false', beq_iff_eq, bne_iff_ne, beq_eq_false_iff_ne, Bool.and_eq_true, Bool.or_eq_true, Bool.and_eq_false_iff, Bool.or_eq_false_iff, ge_iff_le, gt_iff_lt, Int.not_lt, Int.not_le, ne_eq, Decidable.not_not, bne_eq_false_iff_eq] at hc1
      refine r1 ?_
      refine s1 2 72 1 rfl rfl rfl rfl rfl rfl trivial ?_
      refine e1 80 rfl ?_
      refine keep [2] rfl ?_
      refine W_ret ?_
      refine tr ?_
      exact out1 2 (SV.b (nameB s)) (π := []) (hout := []) Try.results44 rfl (by have hb : (decide (1 ≤ s.size) && decide (s.size ≤ 8)) = false := (by rw [Bool.and_eq_false_iff, decide_eq_false_iff_not, decide_eq_false_iff_not]; omega); show SV.b _ = SV.b _; refine congrArg SV.b ?_; unfold nameB; rw [hb]; rfl) rfl rfl trivial ⟨rfl, rfl⟩
    · skip
      try simp only [decide_eq_true_eq, decide_eq_false_iff_not, Bool.not_eq_true', Bool.not_eq_false', beq_iff_eq, bne_iff_ne, beq_eq_false_iff_ne, Bool.and_eq_true, Bool.or_eq_true, Bool.and_eq_false_iff, Bool.or_eq_false_iff, ge_iff_le, gt_iff_lt, Int.not_lt, Int.not_le, ne_eq, Decidable.not_not, bne_eq_false_iff_eq] at hc1
      refine W_skip ?_
      refine tn ?_
      refine W_seq ?_
      refine r1 ?_
      refine s1 3 72 1 rfl rfl rfl rfl rfl rfl trivial ?_
      refine e1 80 rfl ?_
      refine keep [0, 3] rfl ?_
      refine W_block ?_
      refine loop (α := Nat) 0 (fun n => [(0, .d (.val (.string s))), (3, SV.i n)]) (fun n => []) (fun n => n ≤ s.size ∧ ∀ j, j < n → chB (byteAt s j) = true) (fun n => s.size - n) (0) [] (fun _ => rfl) ⟨Nat.zero_le _, fun j hj => by omega⟩ rfl ⟨rfl, rfl, trivial⟩ trivial (fun n hx => ?_)
      obtain ⟨hn, hno⟩ := hx
      refine W_seq ?_
      refine r1 ?_
      refine s1 12 0 1 rfl rfl rfl rfl rfl rfl trivial ?_
      refine s1 13 8 2 rfl rfl rfl rfl rfl rfl trivial ?_
      refine s1 14 16 3 rfl rfl rfl rfl rfl rfl (by first | trivial | omega | (simp only [List.length_map, List.length_append, List.length_cons, List.length_nil] at *; omega)) ?_
      refine s1 15 24 4 rfl rfl rfl rfl rfl rfl (by first | trivial | omega | (simp only [List.length_map, List.length_append, List.length_cons, List.length_nil] at *; omega)) ?_
      refine e1 32 rfl ?_
      refine keep [0, 3, 15] rfl ?_
      refine q1 rfl (fun hc4 => ?_) (fun hc4 => ?_)
      · skip
        try simp only [decide_eq_true_eq, decide_eq_false_iff_not, Bool.not_eq_true', Bool.not_eq_false', beq_iff_eq, bne_iff_ne, beq_eq_false_iff_ne, Bool.and_eq_true, Bool.or_eq_true, Bool.and_eq_false_iff, Bool.or_eq_false_iff, ge_iff_le, gt_iff_lt, Int.not_lt, Int.not_le, ne_eq, Decidable.not_not, bne_eq_false_iff_eq] at hc4
        refine W_skip ?_
        refine tn ?_
        refine W_seq ?_
        refine W_block ?_
        refine r1 ?_
        refine s1 18 32 1 rfl rfl rfl rfl rfl rfl trivial ?_
        refine s1 19 40 2 rfl rfl rfl rfl rfl rfl trivial ?_
        refine s1 20 48 3 rfl rfl rfl rfl rfl rfl (by first | trivial | omega | (simp only [List.length_map, List.length_append, List.length_cons, List.length_nil] at *; omega)) ?_
        refine s1 21 56 4 rfl rfl rfl rfl rfl rfl (by first | trivial | omega | (simp only [List.length_map, List.length_append, List.length_cons, List.length_nil] at *; omega)) ?_
        refine s1 22 64 5 rfl rfl rfl rfl rfl rfl trivial ?_
        refine ask 22 rfl (fun hg6_22 => ?_) (fun hg6_22 => ?_)
        · skip
          try simp only [decide_eq_true_eq, decide_eq_false_iff_not, Bool.not_eq_true', Bool.not_eq_false', beq_iff_eq, bne_iff_ne, beq_eq_false_iff_ne, Bool.and_eq_true, Bool.or_eq_true, Bool.and_eq_false_iff, Bool.or_eq_false_iff, ge_iff_le, gt_iff_lt, Int.not_lt, Int.not_le, ne_eq, Decidable.not_not, bne_eq_false_iff_eq] at hg6_22
          refine g1 4 true 22 23 6 rfl rfl rfl rfl rfl ?_
          refine s1 23 72 6 rfl rfl rfl rfl rfl rfl trivial ?_
          refine g1 4 true 22 24 7 rfl rfl rfl rfl rfl ?_
          refine s1 24 80 7 rfl rfl rfl rfl rfl rfl trivial ?_
          refine g1 4 true 22 25 8 rfl rfl rfl rfl rfl ?_
          refine s1 25 88 8 rfl rfl rfl rfl rfl rfl (by first | trivial | omega | (simp only [List.length_map, List.length_append, List.length_cons, List.length_nil] at *; omega)) ?_
          refine g1 4 true 22 26 9 rfl rfl rfl rfl rfl ?_
          refine s1 26 96 9 rfl rfl rfl rfl rfl rfl (by first | trivial | omega | (simp only [List.length_map, List.length_append, List.length_cons, List.length_nil] at *; omega)) ?_
          refine s1 27 104 10 rfl rfl rfl rfl rfl rfl trivial ?_
          refine s1 28 112 11 rfl rfl rfl rfl rfl rfl trivial ?_
          refine ask 28 rfl (fun hg6_28 => ?_) (fun hg6_28 => ?_)
          · skip
            try simp only [decide_eq_true_eq, decide_eq_false_iff_not, Bool.not_eq_true', Bool.not_eq_false', beq_iff_eq, bne_iff_ne, beq_eq_false_iff_ne, Bool.and_eq_true, Bool.or_eq_true, Bool.and_eq_false_iff, Bool.or_eq_false_iff, ge_iff_le, gt_iff_lt, Int.not_lt, Int.not_le, ne_eq, Decidable.not_not, bne_eq_false_iff_eq] at hg6_28
            refine g0 10 false 28 29 12 rfl rfl rfl rfl rfl rfl ?_
            refine g0 10 false 28 30 13 rfl rfl rfl rfl rfl rfl ?_
            refine g0 10 false 28 31 14 rfl rfl rfl rfl rfl rfl ?_
            refine g0 10 false 28 32 15 rfl rfl rfl rfl rfl rfl ?_
            refine g0 10 false 28 33 16 rfl rfl rfl rfl rfl rfl ?_
            refine gz 15 true 33 34 17 rfl rfl rfl rfl rfl rfl ?_
            refine gz 15 true 33 35 18 rfl rfl rfl rfl rfl rfl ?_
            refine gz 15 true 33 36 19 rfl rfl rfl rfl rfl rfl ?_
            refine gz 15 true 33 37 20 rfl rfl rfl rfl rfl rfl ?_
            refine g0 10 false 28 38 21 rfl rfl rfl rfl rfl rfl ?_
            refine s1 39 200 22 rfl rfl rfl rfl rfl rfl trivial ?_
            refine s1 40 208 23 rfl rfl rfl rfl rfl rfl trivial ?_
            refine e1 216 rfl ?_
            refine keep [0, 3, 40] rfl ?_
            refine q1 rfl (fun hc6 => ?_) (fun hc6 => ?_)
            · skip
              exact absurd hc6 (by decide)
            · skip
              try simp only [decide_eq_true_eq, decide_eq_false_iff_not, Bool.not_eq_true', Bool.not_eq_false', beq_iff_eq, bne_iff_ne, beq_eq_false_iff_ne, Bool.and_eq_true, Bool.or_eq_true, Bool.and_eq_false_iff, Bool.or_eq_false_iff, ge_iff_le, gt_iff_lt, Int.not_lt, Int.not_le, ne_eq, Decidable.not_not, bne_eq_false_iff_eq] at hc6
              refine W_skip ?_
              refine bn ?_
              refine tn ?_
              refine r0 ?_
              refine s1 16 216 1 rfl rfl rfl rfl rfl rfl trivial ?_
              refine sA 17 224 2 rfl rfl rfl rfl rfl rfl rfl rfl rfl (by unfold inRange; omega) ?_
              refine s1 3 232 3 rfl rfl rfl rfl rfl rfl trivial ?_
              refine e1 240 rfl ?_
              refine tn ?_
              exact again (n + 1) [] ⟨by omega, fun j hj => by by_cases e : j = n; (subst e; clear hno; exact (by rw [ch_iff]; unfold byteAt; (try simp only [Int.toNat_natCast] at *); omega)); exact hno j (by omega)⟩ (by omega) rfl ⟨rfl, rfl, trivial⟩ trivial
          · skip
            try simp only [decide_eq_true_eq, decide_eq_false_iff_not, Bool.not_eq_true', Bool.not_eq_false', beq_iff_eq, bne_iff_ne, beq_eq_false_iff_ne, Bool.and_eq_true, Bool.or_eq_true, Bool.and_eq_false_iff, Bool.or_eq_false_iff, ge_iff_le, gt_iff_lt, Int.not_lt, Int.not_le, ne_eq, Decidable.not_not, bne_eq_false_iff_eq] at hg6_28
            refine g1 10 false 28 29 12 rfl rfl rfl rfl rfl ?_
            refine s1 29 120 12 rfl rfl rfl rfl rfl rfl trivial ?_
            refine g1 10 false 28 30 13 rfl rfl rfl rfl rfl ?_
            refine s1 30 128 13 rfl rfl rfl rfl rfl rfl trivial ?_
            refine g1 10 false 28 31 14 rfl rfl rfl rfl rfl ?_
            refine s1 31 136 14 rfl rfl rfl rfl rfl rfl (by first | trivial | omega | (simp only [List.length_map, List.length_append, List.length_cons, List.length_nil] at *; omega)) ?_
            refine g1 10 false 28 32 15 rfl rfl rfl rfl rfl ?_
            refine s1 32 144 15 rfl rfl rfl rfl rfl rfl (by first | trivial | omega | (simp only [List.length_map, List.length_append, List.length_cons, List.length_nil] at *; omega)) ?_
            refine g1 10 false 28 33 16 rfl rfl rfl rfl rfl ?_
            refine s1 33 152 16 rfl rfl rfl rfl rfl rfl trivial ?_
            refine ask 33 rfl (fun hg6_33 => ?_) (fun hg6_33 => ?_)
            · skip
              try simp only [decide_eq_true_eq, decide_eq_false_iff_not, Bool.not_eq_true', Bool.not_eq_false', beq_iff_eq, bne_iff_ne, beq_eq_false_iff_ne, Bool.and_eq_true, Bool.or_eq_true, Bool.and_eq_false_iff, Bool.or_eq_false_iff, ge_iff_le, gt_iff_lt, Int.not_lt, Int.not_le, ne_eq, Decidable.not_not, bne_eq_false_iff_eq] at hg6_33
              refine g1 15 true 33 34 17 rfl rfl rfl rfl rfl ?_
              refine s1 34 160 17 rfl rfl rfl rfl rfl rfl trivial ?_
              refine g1 15 true 33 35 18 rfl rfl rfl rfl rfl ?_
              refine s1 35 168 18 rfl rfl rfl rfl rfl rfl trivial ?_
              refine g1 15 true 33 36 19 rfl rfl rfl rfl rfl ?_
              refine s1 36 176 19 rfl rfl rfl rfl rfl rfl (by first | trivial | omega | (simp only [List.length_map, List.length_append, List.length_cons, List.length_nil] at *; omega)) ?_
              refine g1 15 true 33 37 20 rfl rfl rfl rfl rfl ?_
              refine s1 37 184 20 rfl rfl rfl rfl rfl rfl (by first | trivial | omega | (simp only [List.length_map, List.length_append, List.length_cons, List.length_nil] at *; omega)) ?_
              refine g1 10 false 28 38 21 rfl rfl rfl rfl rfl ?_
              refine s1 38 192 21 rfl rfl rfl rfl rfl rfl trivial ?_
              refine s1 39 200 22 rfl rfl rfl rfl rfl rfl trivial ?_
              refine s1 40 208 23 rfl rfl rfl rfl rfl rfl trivial ?_
              refine e1 216 rfl ?_
              refine keep [0, 3, 40] rfl ?_
              refine q1 rfl (fun hc6 => ?_) (fun hc6 => ?_)
              · skip
                try simp only [decide_eq_true_eq, decide_eq_false_iff_not, Bool.not_eq_true', Bool.not_eq_false', beq_iff_eq, bne_iff_ne, beq_eq_false_iff_ne, Bool.and_eq_true, Bool.or_eq_true, Bool.and_eq_false_iff, Bool.or_eq_false_iff, ge_iff_le, gt_iff_lt, Int.not_lt, Int.not_le, ne_eq, Decidable.not_not, bne_eq_false_iff_eq] at hc6
                refine r1 ?_
                refine s1 2 216 1 rfl rfl rfl rfl rfl rfl trivial ?_
                refine e1 224 rfl ?_
                refine keep [2] rfl ?_
                refine W_ret ?_
                refine br ?_
                refine tr ?_
                refine tr ?_
                refine br ?_
                refine tr ?_
                exact out1 2 (SV.b (nameB s)) (π := []) (hout := []) Try.results44 rfl (by have hb : chB (byteAt s n) = false := (by rw [← Bool.not_eq_true, ch_iff]; unfold byteAt; (try simp only [Int.toNat_natCast] at *); omega); show SV.b _ = SV.b _; refine congrArg SV.b ?_; rw [name_not (n := n) (by omega) hb]) rfl rfl trivial ⟨rfl, rfl⟩
              · skip
                try simp only [decide_eq_true_eq, decide_eq_false_iff_not, Bool.not_eq_true', Bool.not_eq_false', beq_iff_eq, bne_iff_ne, beq_eq_false_iff_ne, Bool.and_eq_true, Bool.or_eq_true, Bool.and_eq_false_iff, Bool.or_eq_false_iff, ge_iff_le, gt_iff_lt, Int.not_lt, Int.not_le, ne_eq, Decidable.not_not, bne_eq_false_iff_eq] at hc6
                refine W_skip ?_
                refine bn ?_
                refine tn ?_
                refine r0 ?_
                refine s1 16 216 1 rfl rfl rfl rfl rfl rfl trivial ?_
                refine sA 17 224 2 rfl rfl rfl rfl rfl rfl rfl rfl rfl (by unfold inRange; omega) ?_
                refine s1 3 232 3 rfl rfl rfl rfl rfl rfl trivial ?_
                refine e1 240 rfl ?_
                refine tn ?_
                exact again (n + 1) [] ⟨by omega, fun j hj => by by_cases e : j = n; (subst e; clear hno; exact (by rw [ch_iff]; unfold byteAt; (try simp only [Int.toNat_natCast] at *); omega)); exact hno j (by omega)⟩ (by omega) rfl ⟨rfl, rfl, trivial⟩ trivial
            · skip
              try simp only [decide_eq_true_eq, decide_eq_false_iff_not, Bool.not_eq_true', Bool.not_eq_false', beq_iff_eq, bne_iff_ne, beq_eq_false_iff_ne, Bool.and_eq_true, Bool.or_eq_true, Bool.and_eq_false_iff, Bool.or_eq_false_iff, ge_iff_le, gt_iff_lt, Int.not_lt, Int.not_le, ne_eq, Decidable.not_not, bne_eq_false_iff_eq] at hg6_33
              refine g0 15 true 33 34 17 rfl rfl rfl rfl rfl rfl ?_
              refine g0 15 true 33 35 18 rfl rfl rfl rfl rfl rfl ?_
              refine g0 15 true 33 36 19 rfl rfl rfl rfl rfl rfl ?_
              refine g0 15 true 33 37 20 rfl rfl rfl rfl rfl rfl ?_
              refine g1 10 false 28 38 21 rfl rfl rfl rfl rfl ?_
              refine s1 38 192 21 rfl rfl rfl rfl rfl rfl trivial ?_
              refine s1 39 200 22 rfl rfl rfl rfl rfl rfl trivial ?_
              refine s1 40 208 23 rfl rfl rfl rfl rfl rfl trivial ?_
              refine e1 216 rfl ?_
              refine keep [0, 3, 40] rfl ?_
              refine q1 rfl (fun hc6 => ?_) (fun hc6 => ?_)
              · skip
                try simp only [decide_eq_true_eq, decide_eq_false_iff_not, Bool.not_eq_true', Bool.not_eq_false', beq_iff_eq, bne_iff_ne, beq_eq_false_iff_ne, Bool.and_eq_true, Bool.or_eq_true, Bool.and_eq_false_iff, Bool.or_eq_false_iff, ge_iff_le, gt_iff_lt, Int.not_lt, Int.not_le, ne_eq, Decidable.not_not, bne_eq_false_iff_eq] at hc6
                refine r1 ?_
                refine s1 2 216 1 rfl rfl rfl rfl rfl rfl trivial ?_
                refine e1 224 rfl ?_
                refine keep [2] rfl ?_
                refine W_ret ?_
                refine br ?_
                refine tr ?_
                refine tr ?_
                refine br ?_
                refine tr ?_
                exact out1 2 (SV.b (nameB s)) (π := []) (hout := []) Try.results44 rfl (by have hb : chB (byteAt s n) = false := (by rw [← Bool.not_eq_true, ch_iff]; unfold byteAt; (try simp only [Int.toNat_natCast] at *); omega); show SV.b _ = SV.b _; refine congrArg SV.b ?_; rw [name_not (n := n) (by omega) hb]) rfl rfl trivial ⟨rfl, rfl⟩
              · skip
                exact absurd hc6 (by decide)
        · skip
          try simp only [decide_eq_true_eq, decide_eq_false_iff_not, Bool.not_eq_true', Bool.not_eq_false', beq_iff_eq, bne_iff_ne, beq_eq_false_iff_ne, Bool.and_eq_true, Bool.or_eq_true, Bool.and_eq_false_iff, Bool.or_eq_false_iff, ge_iff_le, gt_iff_lt, Int.not_lt, Int.not_le, ne_eq, Decidable.not_not, bne_eq_false_iff_eq] at hg6_22
          refine g0 4 true 22 23 6 rfl rfl rfl rfl rfl rfl ?_
          refine g0 4 true 22 24 7 rfl rfl rfl rfl rfl rfl ?_
          refine g0 4 true 22 25 8 rfl rfl rfl rfl rfl rfl ?_
          refine g0 4 true 22 26 9 rfl rfl rfl rfl rfl rfl ?_
          refine s1 27 104 10 rfl rfl rfl rfl rfl rfl trivial ?_
          refine s1 28 112 11 rfl rfl rfl rfl rfl rfl trivial ?_
          refine g1 10 false 28 29 12 rfl rfl rfl rfl rfl ?_
          refine s1 29 120 12 rfl rfl rfl rfl rfl rfl trivial ?_
          refine g1 10 false 28 30 13 rfl rfl rfl rfl rfl ?_
          refine s1 30 128 13 rfl rfl rfl rfl rfl rfl trivial ?_
          refine g1 10 false 28 31 14 rfl rfl rfl rfl rfl ?_
          refine s1 31 136 14 rfl rfl rfl rfl rfl rfl (by first | trivial | omega | (simp only [List.length_map, List.length_append, List.length_cons, List.length_nil] at *; omega)) ?_
          refine g1 10 false 28 32 15 rfl rfl rfl rfl rfl ?_
          refine s1 32 144 15 rfl rfl rfl rfl rfl rfl (by first | trivial | omega | (simp only [List.length_map, List.length_append, List.length_cons, List.length_nil] at *; omega)) ?_
          refine g1 10 false 28 33 16 rfl rfl rfl rfl rfl ?_
          refine s1 33 152 16 rfl rfl rfl rfl rfl rfl trivial ?_
          refine ask 33 rfl (fun hg6_33 => ?_) (fun hg6_33 => ?_)
          · skip
            try simp only [decide_eq_true_eq, decide_eq_false_iff_not, Bool.not_eq_true', Bool.not_eq_false', beq_iff_eq, bne_iff_ne, beq_eq_false_iff_ne, Bool.and_eq_true, Bool.or_eq_true, Bool.and_eq_false_iff, Bool.or_eq_false_iff, ge_iff_le, gt_iff_lt, Int.not_lt, Int.not_le, ne_eq, Decidable.not_not, bne_eq_false_iff_eq] at hg6_33
            refine g1 15 true 33 34 17 rfl rfl rfl rfl rfl ?_
            refine s1 34 160 17 rfl rfl rfl rfl rfl rfl trivial ?_
            refine g1 15 true 33 35 18 rfl rfl rfl rfl rfl ?_
            refine s1 35 168 18 rfl rfl rfl rfl rfl rfl trivial ?_
            refine g1 15 true 33 36 19 rfl rfl rfl rfl rfl ?_
            refine s1 36 176 19 rfl rfl rfl rfl rfl rfl (by first | trivial | omega | (simp only [List.length_map, List.length_append, List.length_cons, List.length_nil] at *; omega)) ?_
            refine g1 15 true 33 37 20 rfl rfl rfl rfl rfl ?_
            refine s1 37 184 20 rfl rfl rfl rfl rfl rfl (by first | trivial | omega | (simp only [List.length_map, List.length_append, List.length_cons, List.length_nil] at *; omega)) ?_
            refine g1 10 false 28 38 21 rfl rfl rfl rfl rfl ?_
            refine s1 38 192 21 rfl rfl rfl rfl rfl rfl trivial ?_
            refine s1 39 200 22 rfl rfl rfl rfl rfl rfl trivial ?_
            refine s1 40 208 23 rfl rfl rfl rfl rfl rfl trivial ?_
            refine e1 216 rfl ?_
            refine keep [0, 3, 40] rfl ?_
            refine q1 rfl (fun hc6 => ?_) (fun hc6 => ?_)
            · skip
              try simp only [decide_eq_true_eq, decide_eq_false_iff_not, Bool.not_eq_true', Bool.not_eq_false', beq_iff_eq, bne_iff_ne, beq_eq_false_iff_ne, Bool.and_eq_true, Bool.or_eq_true, Bool.and_eq_false_iff, Bool.or_eq_false_iff, ge_iff_le, gt_iff_lt, Int.not_lt, Int.not_le, ne_eq, Decidable.not_not, bne_eq_false_iff_eq] at hc6
              refine r1 ?_
              refine s1 2 216 1 rfl rfl rfl rfl rfl rfl trivial ?_
              refine e1 224 rfl ?_
              refine keep [2] rfl ?_
              refine W_ret ?_
              refine br ?_
              refine tr ?_
              refine tr ?_
              refine br ?_
              refine tr ?_
              exact out1 2 (SV.b (nameB s)) (π := []) (hout := []) Try.results44 rfl (by have hb : chB (byteAt s n) = false := (by rw [← Bool.not_eq_true, ch_iff]; unfold byteAt; (try simp only [Int.toNat_natCast] at *); omega); show SV.b _ = SV.b _; refine congrArg SV.b ?_; rw [name_not (n := n) (by omega) hb]) rfl rfl trivial ⟨rfl, rfl⟩
            · skip
              try simp only [decide_eq_true_eq, decide_eq_false_iff_not, Bool.not_eq_true', Bool.not_eq_false', beq_iff_eq, bne_iff_ne, beq_eq_false_iff_ne, Bool.and_eq_true, Bool.or_eq_true, Bool.and_eq_false_iff, Bool.or_eq_false_iff, ge_iff_le, gt_iff_lt, Int.not_lt, Int.not_le, ne_eq, Decidable.not_not, bne_eq_false_iff_eq] at hc6
              refine W_skip ?_
              refine bn ?_
              refine tn ?_
              refine r0 ?_
              refine s1 16 216 1 rfl rfl rfl rfl rfl rfl trivial ?_
              refine sA 17 224 2 rfl rfl rfl rfl rfl rfl rfl rfl rfl (by unfold inRange; omega) ?_
              refine s1 3 232 3 rfl rfl rfl rfl rfl rfl trivial ?_
              refine e1 240 rfl ?_
              refine tn ?_
              exact again (n + 1) [] ⟨by omega, fun j hj => by by_cases e : j = n; (subst e; clear hno; exact (by rw [ch_iff]; unfold byteAt; (try simp only [Int.toNat_natCast] at *); omega)); exact hno j (by omega)⟩ (by omega) rfl ⟨rfl, rfl, trivial⟩ trivial
          · skip
            try simp only [decide_eq_true_eq, decide_eq_false_iff_not, Bool.not_eq_true', Bool.not_eq_false', beq_iff_eq, bne_iff_ne, beq_eq_false_iff_ne, Bool.and_eq_true, Bool.or_eq_true, Bool.and_eq_false_iff, Bool.or_eq_false_iff, ge_iff_le, gt_iff_lt, Int.not_lt, Int.not_le, ne_eq, Decidable.not_not, bne_eq_false_iff_eq] at hg6_33
            refine g0 15 true 33 34 17 rfl rfl rfl rfl rfl rfl ?_
            refine g0 15 true 33 35 18 rfl rfl rfl rfl rfl rfl ?_
            refine g0 15 true 33 36 19 rfl rfl rfl rfl rfl rfl ?_
            refine g0 15 true 33 37 20 rfl rfl rfl rfl rfl rfl ?_
            refine g1 10 false 28 38 21 rfl rfl rfl rfl rfl ?_
            refine s1 38 192 21 rfl rfl rfl rfl rfl rfl trivial ?_
            refine s1 39 200 22 rfl rfl rfl rfl rfl rfl trivial ?_
            refine s1 40 208 23 rfl rfl rfl rfl rfl rfl trivial ?_
            refine e1 216 rfl ?_
            refine keep [0, 3, 40] rfl ?_
            refine q1 rfl (fun hc6 => ?_) (fun hc6 => ?_)
            · skip
              try simp only [decide_eq_true_eq, decide_eq_false_iff_not, Bool.not_eq_true', Bool.not_eq_false', beq_iff_eq, bne_iff_ne, beq_eq_false_iff_ne, Bool.and_eq_true, Bool.or_eq_true, Bool.and_eq_false_iff, Bool.or_eq_false_iff, ge_iff_le, gt_iff_lt, Int.not_lt, Int.not_le, ne_eq, Decidable.not_not, bne_eq_false_iff_eq] at hc6
              refine r1 ?_
              refine s1 2 216 1 rfl rfl rfl rfl rfl rfl trivial ?_
              refine e1 224 rfl ?_
              refine keep [2] rfl ?_
              refine W_ret ?_
              refine br ?_
              refine tr ?_
              refine tr ?_
              refine br ?_
              refine tr ?_
              exact out1 2 (SV.b (nameB s)) (π := []) (hout := []) Try.results44 rfl (by have hb : chB (byteAt s n) = false := (by rw [← Bool.not_eq_true, ch_iff]; unfold byteAt; (try simp only [Int.toNat_natCast] at *); omega); show SV.b _ = SV.b _; refine congrArg SV.b ?_; rw [name_not (n := n) (by omega) hb]) rfl rfl trivial ⟨rfl, rfl⟩
            · skip
              exact absurd hc6 (by decide)
      · skip
        try simp only [decide_eq_true_eq, decide_eq_false_iff_not, Bool.not_eq_true', Bool.not_eq_false', beq_iff_eq, bne_iff_ne, beq_eq_false_iff_ne, Bool.and_eq_true, Bool.or_eq_true, Bool.and_eq_false_iff, Bool.or_eq_false_iff, ge_iff_le, gt_iff_lt, Int.not_lt, Int.not_le, ne_eq, Decidable.not_not, bne_eq_false_iff_eq] at hc4
        refine W_exit ?_
        refine tx ?_
        refine tx ?_
        refine bx ?_
        refine tn ?_
        refine r1 ?_
        refine s1 2 32 1 rfl rfl rfl rfl rfl rfl trivial ?_
        refine e1 40 rfl ?_
        refine keep [2] rfl ?_
        refine W_ret ?_
        exact out1 2 (SV.b (nameB s)) (π := []) (hout := []) Try.results44 rfl (by have hb : (decide (1 ≤ s.size) && decide (s.size ≤ 8)) = true := (by rw [Bool.and_eq_true, decide_eq_true_eq, decide_eq_true_eq]; omega); rw [name_all (fun j hj => hno j (by omega)), hb]; rfl) rfl rfl trivial ⟨rfl, rfl⟩


structure TagD where
  key : ByteArray
  val : ByteArray
  deriving Inhabited, DecidableEq
def tagC (t : TagD) : Nat → D
  | 0 => .val (.string t.key)
  | 1 => .val (.string t.val)
  | _ => .any
def tagF (l : List TagD) : Nat → Nat → D := fun i c => tagC (l.getD i default) c
def tagsV (l : List TagD) : SV := .d (.vec 2 l.length (tagF l))
theorem tag_eq {a b : TagD} : a = b ↔ a.key.toList = b.key.toList ∧ a.val.toList = b.val.toList := by
  have h : ∀ x y : ByteArray, x = y ↔ x.toList = y.toList := fun x y => by
    constructor
    · rintro rfl; rfl
    · intro e; rw [ByteArray.toList_eq, ByteArray.toList_eq] at e; exact WideShapes.bytes_inj e
  obtain ⟨k, v⟩ := a
  obtain ⟨k', v'⟩ := b
  rw [TagD.mk.injEq, h, h]
theorem tags_same {x y : List TagD} (hl : x.length = y.length) (h : ∀ j, j < x.length → x.getD j default = y.getD j default) : x = y := by
  refine List.ext_getElem hl fun i h1 h2 => ?_
  have := h i h1
  simpa [List.getD, h1, h2] using this
theorem tags_diff {x y : List TagD} {n : Nat} (h : ¬ x.getD n default = y.getD n default) : ¬ x = y := fun e => h (by rw [e])

theorem equal_any (x y : List TagD) (hxl : x.length ≤ 9223372036854775807) (p : Bool) (hp : p = true ↔ x = y) : Spec Try.prog GT 43 [tagsV x, tagsV y] [] (fun r ho => r = SV.b p ∧ ho = []) := by
  refine start 26 0 Try.func43 rfl rfl rfl rfl ?_
  refine r1 ?_
  refine s1 4 0 1 rfl rfl rfl rfl rfl rfl trivial ?_
  refine e1 8 rfl ?_
  refine keep [0, 1] rfl ?_
  refine W_seq ?_
  refine r1 ?_
  refine s1 6 8 1 rfl rfl rfl rfl rfl rfl trivial ?_
  refine s1 7 16 2 rfl rfl rfl rfl rfl rfl (by first | trivial | omega | (simp only [List.length_map, List.length_append, List.length_cons, List.length_nil] at *; omega)) ?_
  refine s1 8 24 3 rfl rfl rfl rfl rfl rfl trivial ?_
  refine s1 9 32 4 rfl rfl rfl rfl rfl rfl (by first | trivial | omega | (simp only [List.length_map, List.length_append, List.length_cons, List.length_nil] at *; omega)) ?_
  refine s1 10 40 5 rfl rfl rfl rfl rfl rfl (by first | trivial | omega | (simp only [List.length_map, List.length_append, List.length_cons, List.length_nil] at *; omega)) ?_
  refine e1 48 rfl ?_
  refine keep [0, 1, 10] rfl ?_
  refine q1 rfl (fun hc1 => ?_) (fun hc1 => ?_)
  · skip
    try simp only [decide_eq_true_eq, decide_eq_false_iff_not, Bool.not_eq_true', Bool.not_eq_false', beq_iff_eq, bne_iff_ne, beq_eq_false_iff_ne, Bool.and_eq_true, Bool.or_eq_true, Bool.and_eq_false_iff, Bool.or_eq_false_iff, ge_iff_le, gt_iff_lt, Int.not_lt, Int.not_le, ne_eq, Decidable.not_not, bne_eq_false_iff_eq] at hc1
    refine r1 ?_
    refine s1 4 48 1 rfl rfl rfl rfl rfl rfl trivial ?_
    refine e1 56 rfl ?_
    refine keep [4] rfl ?_
    refine W_ret ?_
    refine tr ?_
    exact out1 4 (SV.b p) (π := []) (hout := []) Try.results43 rfl (by have : p = false := (by rw [← Bool.not_eq_true, hp]; intro e; subst e; omega); rw [this]; rfl) rfl rfl trivial ⟨rfl, rfl⟩
  · skip
    try simp only [decide_eq_true_eq, decide_eq_false_iff_not, Bool.not_eq_true', Bool.not_eq_false', beq_iff_eq, bne_iff_ne, beq_eq_false_iff_ne, Bool.and_eq_true, Bool.or_eq_true, Bool.and_eq_false_iff, Bool.or_eq_false_iff, ge_iff_le, gt_iff_lt, Int.not_lt, Int.not_le, ne_eq, Decidable.not_not, bne_eq_false_iff_eq] at hc1
    refine W_skip ?_
    refine tn ?_
    refine W_seq ?_
    refine r1 ?_
    refine s1 11 48 1 rfl rfl rfl rfl rfl rfl trivial ?_
    refine s1 12 56 2 rfl rfl rfl rfl rfl rfl (by first | trivial | omega | (simp only [List.length_map, List.length_append, List.length_cons, List.length_nil] at *; omega)) ?_
    refine s1 13 64 3 rfl rfl rfl rfl rfl rfl trivial ?_
    refine e1 72 rfl ?_
    refine keep [0, 1, 12, 13] rfl ?_
    refine W_block ?_
    have hl : x.length = y.length := (by omega)
    refine loop (α := Nat) 0 (fun n => [(0, tagsV x), (1, tagsV y), (12, SV.i x.length), (13, SV.i n)]) (fun n => []) (fun n => n ≤ x.length ∧ ∀ j, j < n → x.getD j default = y.getD j default) (fun n => x.length - n) (0) [] (fun _ => rfl) ⟨Nat.zero_le _, fun j hj => by omega⟩ rfl ⟨rfl, rfl, rfl, rfl, trivial⟩ trivial (fun n hx => ?_)
    obtain ⟨hn, hno⟩ := hx
    refine r1 ?_
    refine s1 14 0 1 rfl rfl rfl rfl rfl rfl (by first | trivial | omega | (simp only [List.length_map, List.length_append, List.length_cons, List.length_nil] at *; omega)) ?_
    refine e1 8 rfl ?_
    refine keep [0, 1, 12, 13, 14] rfl ?_
    refine W_seq ?_
    refine q1 rfl (fun hc4 => ?_) (fun hc4 => ?_)
    · skip
      try simp only [decide_eq_true_eq, decide_eq_false_iff_not, Bool.not_eq_true', Bool.not_eq_false', beq_iff_eq, bne_iff_ne, beq_eq_false_iff_ne, Bool.and_eq_true, Bool.or_eq_true, Bool.and_eq_false_iff, Bool.or_eq_false_iff, ge_iff_le, gt_iff_lt, Int.not_lt, Int.not_le, ne_eq, Decidable.not_not, bne_eq_false_iff_eq] at hc4
      refine W_skip ?_
      refine tn ?_
      refine W_seq ?_
      refine W_block ?_
      refine r1 ?_
      refine s1 15 8 1 rfl rfl rfl rfl rfl rfl trivial ?_
      refine s1 5 16 2 rfl rfl rfl rfl rfl rfl trivial ?_
      refine e1 24 rfl ?_
      refine keep [0, 1, 5, 12, 13] rfl ?_
      refine rd1 rfl ?_
      refine d1 16 24 1 rfl rfl rfl rfl rfl rfl trivial ?_
      refine d1 17 32 2 rfl rfl rfl rfl rfl rfl trivial ?_
      refine d1 18 40 3 rfl rfl rfl rfl rfl rfl (by first | trivial | omega | (simp only [List.length_map, List.length_append, List.length_cons, List.length_nil] at *; omega)) ?_
      refine d1 19 48 4 rfl rfl rfl rfl rfl rfl (by first | trivial | omega | (simp only [List.length_map, List.length_append, List.length_cons, List.length_nil] at *; omega)) ?_
      refine d1 20 56 5 rfl rfl rfl rfl rfl rfl trivial ?_
      refine d1 21 64 6 rfl rfl rfl rfl rfl rfl trivial ?_
      refine d1 22 72 7 rfl rfl rfl rfl rfl rfl (by first | trivial | omega | (simp only [List.length_map, List.length_append, List.length_cons, List.length_nil] at *; omega)) ?_
      refine d1 23 80 8 rfl rfl rfl rfl rfl rfl (by first | trivial | omega | (simp only [List.length_map, List.length_append, List.length_cons, List.length_nil] at *; omega)) ?_
      refine dEq (op := .neq) 24 88 9 rfl rfl rfl rfl rfl rfl rfl rfl rfl (by kernel_rfl) (by kernel_rfl) rfl (.inr ⟨rfl, rfl⟩) ?_
      refine de1 96 rfl (by kernel_rfl) ?_
      refine keep [0, 1, 12, 13, 24] rfl ?_
      refine q1 rfl (fun hc6 => ?_) (fun hc6 => ?_)
      · skip
        try simp only [decide_eq_true_eq, decide_eq_false_iff_not, Bool.not_eq_true', Bool.not_eq_false', beq_iff_eq, bne_iff_ne, beq_eq_false_iff_ne, Bool.and_eq_true, Bool.or_eq_true, Bool.and_eq_false_iff, Bool.or_eq_false_iff, ge_iff_le, gt_iff_lt, Int.not_lt, Int.not_le, ne_eq, Decidable.not_not, bne_eq_false_iff_eq] at hc6
        refine r1 ?_
        refine s1 4 96 1 rfl rfl rfl rfl rfl rfl trivial ?_
        refine e1 104 rfl ?_
        refine keep [4] rfl ?_
        refine W_ret ?_
        refine br ?_
        refine tr ?_
        refine tr ?_
        refine br ?_
        refine tr ?_
        exact out1 4 (SV.b p) (π := []) (hout := []) Try.results43 rfl (by have : p = false := (by rw [← Bool.not_eq_true, hp]; refine tags_diff (n := n) (fun e => ?_); rw [tag_eq] at e; exact hc6.elim (fun h => h e.1) (fun h => h.elim (fun h => h e.2) (fun h => by cases h))); rw [this]; rfl) rfl rfl trivial ⟨rfl, rfl⟩
      · skip
        try simp only [decide_eq_true_eq, decide_eq_false_iff_not, Bool.not_eq_true', Bool.not_eq_false', beq_iff_eq, bne_iff_ne, beq_eq_false_iff_ne, Bool.and_eq_true, Bool.or_eq_true, Bool.and_eq_false_iff, Bool.or_eq_false_iff, ge_iff_le, gt_iff_lt, Int.not_lt, Int.not_le, ne_eq, Decidable.not_not, bne_eq_false_iff_eq] at hc6
        refine W_skip ?_
        refine bn ?_
        refine tn ?_
        refine r0 ?_
        refine sA 25 96 1 rfl rfl rfl rfl rfl rfl rfl rfl rfl (by unfold inRange; omega) ?_
        refine s1 13 104 2 rfl rfl rfl rfl rfl rfl trivial ?_
        refine e1 112 rfl ?_
        refine tn ?_
        exact again (n + 1) [] ⟨by omega, fun j hj => by by_cases e : j = n; (subst e; rw [tag_eq]; exact ⟨hc6.1, hc6.2.1⟩); exact hno j (by omega)⟩ (by omega) rfl ⟨rfl, rfl, rfl, rfl, trivial⟩ trivial
    · skip
      try simp only [decide_eq_true_eq, decide_eq_false_iff_not, Bool.not_eq_true', Bool.not_eq_false', beq_iff_eq, bne_iff_ne, beq_eq_false_iff_ne, Bool.and_eq_true, Bool.or_eq_true, Bool.and_eq_false_iff, Bool.or_eq_false_iff, ge_iff_le, gt_iff_lt, Int.not_lt, Int.not_le, ne_eq, Decidable.not_not, bne_eq_false_iff_eq] at hc4
      refine W_exit ?_
      refine tx ?_
      refine tx ?_
      refine bx ?_
      refine tn ?_
      refine r1 ?_
      refine s1 4 8 1 rfl rfl rfl rfl rfl rfl trivial ?_
      refine e1 16 rfl ?_
      refine keep [4] rfl ?_
      refine W_ret ?_
      exact out1 4 (SV.b p) (π := []) (hout := []) Try.results43 rfl (by rw [hp.2 (tags_same hl (fun j hj => hno j (by omega)))]; rfl) rfl rfl trivial ⟨rfl, rfl⟩

theorem sameTags_any (x y : List TagD) (hxl : x.length ≤ 9223372036854775807) (p : Bool) (hp : p = true ↔ x = y) : Spec Try.prog GT 45 [tagsV x, tagsV y] [] (fun r ho => r = SV.b p ∧ ho = []) := by
  refine start 26 0 Try.func45 rfl rfl rfl rfl ?_
  refine r1 ?_
  refine s1 4 0 1 rfl rfl rfl rfl rfl rfl trivial ?_
  refine e1 8 rfl ?_
  refine keep [0, 1] rfl ?_
  refine W_seq ?_
  refine r1 ?_
  refine s1 6 8 1 rfl rfl rfl rfl rfl rfl trivial ?_
  refine s1 7 16 2 rfl rfl rfl rfl rfl rfl (by first | trivial | omega | (simp only [List.length_map, List.length_append, List.length_cons, List.length_nil] at *; omega)) ?_
  refine s1 8 24 3 rfl rfl rfl rfl rfl rfl trivial ?_
  refine s1 9 32 4 rfl rfl rfl rfl rfl rfl (by first | trivial | omega | (simp only [List.length_map, List.length_append, List.length_cons, List.length_nil] at *; omega)) ?_
  refine s1 10 40 5 rfl rfl rfl rfl rfl rfl (by first | trivial | omega | (simp only [List.length_map, List.length_append, List.length_cons, List.length_nil] at *; omega)) ?_
  refine e1 48 rfl ?_
  refine keep [0, 1, 10] rfl ?_
  refine q1 rfl (fun hc1 => ?_) (fun hc1 => ?_)
  · skip
    try simp only [decide_eq_true_eq, decide_eq_false_iff_not, Bool.not_eq_true', Bool.not_eq_false', beq_iff_eq, bne_iff_ne, beq_eq_false_iff_ne, Bool.and_eq_true, Bool.or_eq_true, Bool.and_eq_false_iff, Bool.or_eq_false_iff, ge_iff_le, gt_iff_lt, Int.not_lt, Int.not_le, ne_eq, Decidable.not_not, bne_eq_false_iff_eq] at hc1
    refine r1 ?_
    refine s1 4 48 1 rfl rfl rfl rfl rfl rfl trivial ?_
    refine e1 56 rfl ?_
    refine keep [4] rfl ?_
    refine W_ret ?_
    refine tr ?_
    exact out1 4 (SV.b p) (π := []) (hout := []) Try.results45 rfl (by have : p = false := (by rw [← Bool.not_eq_true, hp]; intro e; subst e; omega); rw [this]; rfl) rfl rfl trivial ⟨rfl, rfl⟩
  · skip
    try simp only [decide_eq_true_eq, decide_eq_false_iff_not, Bool.not_eq_true', Bool.not_eq_false', beq_iff_eq, bne_iff_ne, beq_eq_false_iff_ne, Bool.and_eq_true, Bool.or_eq_true, Bool.and_eq_false_iff, Bool.or_eq_false_iff, ge_iff_le, gt_iff_lt, Int.not_lt, Int.not_le, ne_eq, Decidable.not_not, bne_eq_false_iff_eq] at hc1
    refine W_skip ?_
    refine tn ?_
    refine W_seq ?_
    refine r1 ?_
    refine s1 11 48 1 rfl rfl rfl rfl rfl rfl trivial ?_
    refine s1 12 56 2 rfl rfl rfl rfl rfl rfl (by first | trivial | omega | (simp only [List.length_map, List.length_append, List.length_cons, List.length_nil] at *; omega)) ?_
    refine s1 13 64 3 rfl rfl rfl rfl rfl rfl trivial ?_
    refine e1 72 rfl ?_
    refine keep [0, 1, 12, 13] rfl ?_
    refine W_block ?_
    have hl : x.length = y.length := (by omega)
    refine loop (α := Nat) 0 (fun n => [(0, tagsV x), (1, tagsV y), (12, SV.i x.length), (13, SV.i n)]) (fun n => []) (fun n => n ≤ x.length ∧ ∀ j, j < n → x.getD j default = y.getD j default) (fun n => x.length - n) (0) [] (fun _ => rfl) ⟨Nat.zero_le _, fun j hj => by omega⟩ rfl ⟨rfl, rfl, rfl, rfl, trivial⟩ trivial (fun n hx => ?_)
    obtain ⟨hn, hno⟩ := hx
    refine r1 ?_
    refine s1 14 0 1 rfl rfl rfl rfl rfl rfl (by first | trivial | omega | (simp only [List.length_map, List.length_append, List.length_cons, List.length_nil] at *; omega)) ?_
    refine e1 8 rfl ?_
    refine keep [0, 1, 12, 13, 14] rfl ?_
    refine W_seq ?_
    refine q1 rfl (fun hc4 => ?_) (fun hc4 => ?_)
    · skip
      try simp only [decide_eq_true_eq, decide_eq_false_iff_not, Bool.not_eq_true', Bool.not_eq_false', beq_iff_eq, bne_iff_ne, beq_eq_false_iff_ne, Bool.and_eq_true, Bool.or_eq_true, Bool.and_eq_false_iff, Bool.or_eq_false_iff, ge_iff_le, gt_iff_lt, Int.not_lt, Int.not_le, ne_eq, Decidable.not_not, bne_eq_false_iff_eq] at hc4
      refine W_skip ?_
      refine tn ?_
      refine W_seq ?_
      refine W_block ?_
      refine r1 ?_
      refine s1 15 8 1 rfl rfl rfl rfl rfl rfl trivial ?_
      refine s1 5 16 2 rfl rfl rfl rfl rfl rfl trivial ?_
      refine e1 24 rfl ?_
      refine keep [0, 1, 5, 12, 13] rfl ?_
      refine rd1 rfl ?_
      refine d1 16 24 1 rfl rfl rfl rfl rfl rfl trivial ?_
      refine d1 17 32 2 rfl rfl rfl rfl rfl rfl trivial ?_
      refine d1 18 40 3 rfl rfl rfl rfl rfl rfl (by first | trivial | omega | (simp only [List.length_map, List.length_append, List.length_cons, List.length_nil] at *; omega)) ?_
      refine d1 19 48 4 rfl rfl rfl rfl rfl rfl (by first | trivial | omega | (simp only [List.length_map, List.length_append, List.length_cons, List.length_nil] at *; omega)) ?_
      refine d1 20 56 5 rfl rfl rfl rfl rfl rfl trivial ?_
      refine d1 21 64 6 rfl rfl rfl rfl rfl rfl trivial ?_
      refine d1 22 72 7 rfl rfl rfl rfl rfl rfl (by first | trivial | omega | (simp only [List.length_map, List.length_append, List.length_cons, List.length_nil] at *; omega)) ?_
      refine d1 23 80 8 rfl rfl rfl rfl rfl rfl (by first | trivial | omega | (simp only [List.length_map, List.length_append, List.length_cons, List.length_nil] at *; omega)) ?_
      refine dEq (op := .neq) 24 88 9 rfl rfl rfl rfl rfl rfl rfl rfl rfl (by kernel_rfl) (by kernel_rfl) rfl (.inr ⟨rfl, rfl⟩) ?_
      refine de1 96 rfl (by kernel_rfl) ?_
      refine keep [0, 1, 12, 13, 24] rfl ?_
      refine q1 rfl (fun hc6 => ?_) (fun hc6 => ?_)
      · skip
        try simp only [decide_eq_true_eq, decide_eq_false_iff_not, Bool.not_eq_true', Bool.not_eq_false', beq_iff_eq, bne_iff_ne, beq_eq_false_iff_ne, Bool.and_eq_true, Bool.or_eq_true, Bool.and_eq_false_iff, Bool.or_eq_false_iff, ge_iff_le, gt_iff_lt, Int.not_lt, Int.not_le, ne_eq, Decidable.not_not, bne_eq_false_iff_eq] at hc6
        refine r1 ?_
        refine s1 4 96 1 rfl rfl rfl rfl rfl rfl trivial ?_
        refine e1 104 rfl ?_
        refine keep [4] rfl ?_
        refine W_ret ?_
        refine br ?_
        refine tr ?_
        refine tr ?_
        refine br ?_
        refine tr ?_
        exact out1 4 (SV.b p) (π := []) (hout := []) Try.results45 rfl (by have : p = false := (by rw [← Bool.not_eq_true, hp]; refine tags_diff (n := n) (fun e => ?_); rw [tag_eq] at e; exact hc6.elim (fun h => h e.1) (fun h => h.elim (fun h => h e.2) (fun h => by cases h))); rw [this]; rfl) rfl rfl trivial ⟨rfl, rfl⟩
      · skip
        try simp only [decide_eq_true_eq, decide_eq_false_iff_not, Bool.not_eq_true', Bool.not_eq_false', beq_iff_eq, bne_iff_ne, beq_eq_false_iff_ne, Bool.and_eq_true, Bool.or_eq_true, Bool.and_eq_false_iff, Bool.or_eq_false_iff, ge_iff_le, gt_iff_lt, Int.not_lt, Int.not_le, ne_eq, Decidable.not_not, bne_eq_false_iff_eq] at hc6
        refine W_skip ?_
        refine bn ?_
        refine tn ?_
        refine r0 ?_
        refine sA 25 96 1 rfl rfl rfl rfl rfl rfl rfl rfl rfl (by unfold inRange; omega) ?_
        refine s1 13 104 2 rfl rfl rfl rfl rfl rfl trivial ?_
        refine e1 112 rfl ?_
        refine tn ?_
        exact again (n + 1) [] ⟨by omega, fun j hj => by by_cases e : j = n; (subst e; rw [tag_eq]; exact ⟨hc6.1, hc6.2.1⟩); exact hno j (by omega)⟩ (by omega) rfl ⟨rfl, rfl, rfl, rfl, trivial⟩ trivial
    · skip
      try simp only [decide_eq_true_eq, decide_eq_false_iff_not, Bool.not_eq_true', Bool.not_eq_false', beq_iff_eq, bne_iff_ne, beq_eq_false_iff_ne, Bool.and_eq_true, Bool.or_eq_true, Bool.and_eq_false_iff, Bool.or_eq_false_iff, ge_iff_le, gt_iff_lt, Int.not_lt, Int.not_le, ne_eq, Decidable.not_not, bne_eq_false_iff_eq] at hc4
      refine W_exit ?_
      refine tx ?_
      refine tx ?_
      refine bx ?_
      refine tn ?_
      refine r1 ?_
      refine s1 4 8 1 rfl rfl rfl rfl rfl rfl trivial ?_
      refine e1 16 rfl ?_
      refine keep [4] rfl ?_
      refine W_ret ?_
      exact out1 4 (SV.b p) (π := []) (hout := []) Try.results45 rfl (by rw [hp.2 (tags_same hl (fun j hj => hno j (by omega)))]; rfl) rfl rfl trivial ⟨rfl, rfl⟩


def serF (ss : List (List TagD)) : Nat → Nat → D := fun i _ => .vec 2 (ss.getD i []).length (tagF (ss.getD i []))
def serV (ss : List (List TagD)) (n : Nat) : SV := .d (.vec 1 n (serF ss))
def firstEq (l : List TagD) (ss : List (List TagD)) (n : Nat) : Int := match (List.range n).find? fun k => decide (l = ss.getD k []) with | some i => i | none => -1
theorem firstEq_at {l : List TagD} {ss : List (List TagD)} {n k : Nat} (hk : k < n) (h : l = ss.getD k []) (hno : ∀ j, j < k → ¬ l = ss.getD j []) : firstEq l ss n = k := by
  unfold firstEq
  have : (List.range n).find? (fun k => decide (l = ss.getD k [])) = some k := by
    rw [List.find?_range_eq_some]
    refine ⟨by rw [decide_eq_true_eq]; exact h, by simpa using hk, fun j hj => ?_⟩
    rw [Bool.not_eq_true', decide_eq_false_iff_not]; exact hno j hj
  rw [this]
theorem firstEq_none {l : List TagD} {ss : List (List TagD)} {n : Nat} (hno : ∀ j, j < n → ¬ l = ss.getD j []) : firstEq l ss n = -1 := by
  unfold firstEq
  have : (List.range n).find? (fun k => decide (l = ss.getD k [])) = none := by
    rw [List.find?_range_eq_none]
    intro j hj
    rw [Bool.not_eq_true', decide_eq_false_iff_not]; exact hno j hj
  rw [this]

theorem eqTo_any (l m : List TagD) (hl : l.length ≤ 9223372036854775807) : Spec Try.prog GT 42 [tagsV m, .ptr 0 0 0] [.cells 56 1 [tagsV l]] (fun r ho => r = SV.b (decide (l = m)) ∧ ho = [some (.cells 56 1 [tagsV l])]) := by
  refine start 7 1 Try.func42 rfl rfl rfl rfl ?_
  refine r1 ?_
  refine s1 3 1 1 rfl rfl rfl rfl rfl rfl trivial ?_
  refine e1 9 rfl ?_
  refine keep [0, 1] rfl ?_
  refine r1 ?_
  refine s1 4 9 1 rfl rfl rfl rfl rfl rfl (by first | trivial | omega | (simp only [List.length_map, List.length_append, List.length_cons, List.length_nil] at *; omega)) ?_
  refine s1 5 17 2 rfl rfl rfl rfl rfl rfl trivial ?_
  refine c1 (equal_any l m hl (decide (l = m)) decide_eq_true_iff) [] [] 6 25 3 rfl rfl rfl rfl rfl rfl rfl rfl Try.func43 rfl rfl rfl rfl trivial rfl rfl ?_
  refine s1 3 33 4 rfl rfl rfl rfl rfl rfl trivial ?_
  refine e1 41 rfl ?_
  refine keep [3] rfl ?_
  refine W_ret ?_
  exact out1 3 (SV.b (decide (l = m))) (π := [0]) (hout := [some (.cells 56 1 [tagsV l])]) Try.results42 rfl rfl rfl rfl ⟨rfl, trivial⟩ ⟨rfl, rfl⟩

theorem indexEq_any (l : List TagD) (ss : List (List TagD)) (q : Nat) (hq : q ≤ 9223372036854775807) (hl : l.length ≤ 9223372036854775807) : Spec Try.prog GT 59 [serV ss q, .fn 42 [.ptr 0 0 0]] [.cells 56 1 [tagsV l]] (fun r ho => r = SV.i (firstEq l ss q) ∧ ho = [some (.cells 56 1 [tagsV l])]) := by
  refine start 19 1 Try.func59 rfl rfl rfl rfl ?_
  refine r1 ?_
  refine s1 4 1 1 rfl rfl rfl rfl rfl rfl trivial ?_
  refine e1 9 rfl ?_
  refine keep [0, 1] rfl ?_
  refine W_seq ?_
  refine r1 ?_
  refine s1 6 9 1 rfl rfl rfl rfl rfl rfl trivial ?_
  refine s1 7 17 2 rfl rfl rfl rfl rfl rfl (by first | trivial | omega | (simp only [List.length_map, List.length_append, List.length_cons, List.length_nil] at *; omega)) ?_
  refine s1 8 25 3 rfl rfl rfl rfl rfl rfl trivial ?_
  refine e1 33 rfl ?_
  refine keep [0, 1, 7, 8] rfl ?_
  refine W_block ?_
  refine loop (α := Nat) 1 (fun n => [(0, serV ss q), (1, .fn 42 [.ptr 0 0 0]), (7, SV.i q), (8, SV.i n)]) (fun n => [some (.cells 56 1 [tagsV l])]) (fun n => n ≤ q ∧ ∀ j, j < n → ¬ l = ss.getD j []) (fun n => q - n) (0) [0] (fun _ => rfl) ⟨Nat.zero_le _, fun j hj => by omega⟩ rfl ⟨rfl, rfl, rfl, rfl, trivial⟩ ⟨rfl, trivial⟩ (fun n hx => ?_)
  obtain ⟨hn, hno⟩ := hx
  refine r1 ?_
  refine s1 9 1 1 rfl rfl rfl rfl rfl rfl (by first | trivial | omega | (simp only [List.length_map, List.length_append, List.length_cons, List.length_nil] at *; omega)) ?_
  refine e1 9 rfl ?_
  refine keep [0, 1, 7, 8, 9] rfl ?_
  refine W_seq ?_
  refine q1 rfl (fun hc2 => ?_) (fun hc2 => ?_)
  · skip
    try simp only [decide_eq_true_eq, decide_eq_false_iff_not, Bool.not_eq_true', Bool.not_eq_false', beq_iff_eq, bne_iff_ne, beq_eq_false_iff_ne, Bool.and_eq_true, Bool.or_eq_true, Bool.and_eq_false_iff, Bool.or_eq_false_iff, ge_iff_le, gt_iff_lt, Int.not_lt, Int.not_le, ne_eq, Decidable.not_not, bne_eq_false_iff_eq] at hc2
    refine W_skip ?_
    refine tn ?_
    refine W_seq ?_
    refine W_block ?_
    refine r1 ?_
    refine s1 10 9 1 rfl rfl rfl rfl rfl rfl trivial ?_
    refine s1 5 17 2 rfl rfl rfl rfl rfl rfl trivial ?_
    refine e1 25 rfl ?_
    refine keep [0, 1, 5, 7, 8] rfl ?_
    refine r1 ?_
    refine s1 11 25 1 rfl rfl rfl rfl rfl rfl trivial ?_
    refine s1 12 33 2 rfl rfl rfl rfl rfl rfl trivial ?_
    refine s1 13 41 3 rfl rfl rfl rfl rfl rfl trivial ?_
    refine s1 14 49 4 rfl rfl rfl rfl rfl rfl (by first | trivial | omega | (simp only [List.length_map, List.length_append, List.length_cons, List.length_nil] at *; omega)) ?_
    refine s1 15 57 5 rfl rfl rfl rfl rfl rfl (by first | trivial | omega | (simp only [List.length_map, List.length_append, List.length_cons, List.length_nil] at *; omega)) ?_
    refine c1 (eqTo_any l (ss.getD n []) hl) [0] [0] 16 65 6 rfl rfl rfl rfl rfl rfl rfl rfl Try.func42 rfl rfl rfl rfl ⟨rfl, trivial⟩ rfl rfl ?_
    refine e1 73 rfl ?_
    refine keep [0, 1, 5, 7, 8, 16] rfl ?_
    refine q1 rfl (fun hc4 => ?_) (fun hc4 => ?_)
    · skip
      try simp only [decide_eq_true_eq, decide_eq_false_iff_not, Bool.not_eq_true', Bool.not_eq_false', beq_iff_eq, bne_iff_ne, beq_eq_false_iff_ne, Bool.and_eq_true, Bool.or_eq_true, Bool.and_eq_false_iff, Bool.or_eq_false_iff, ge_iff_le, gt_iff_lt, Int.not_lt, Int.not_le, ne_eq, Decidable.not_not, bne_eq_false_iff_eq] at hc4
      refine r1 ?_
      refine s1 17 73 1 rfl rfl rfl rfl rfl rfl trivial ?_
      refine s1 4 81 2 rfl rfl rfl rfl rfl rfl trivial ?_
      refine e1 89 rfl ?_
      refine keep [4] rfl ?_
      refine W_ret ?_
      refine br ?_
      refine tr ?_
      refine tr ?_
      refine br ?_
      refine tr ?_
      exact out1 4 (SV.i (firstEq l ss q)) (π := [0]) (hout := [some (.cells 56 1 [tagsV l])]) Try.results59 rfl (by rw [firstEq_at (by omega) hc4 hno]; rfl) rfl rfl ⟨rfl, trivial⟩ ⟨rfl, rfl⟩
    · skip
      try simp only [decide_eq_true_eq, decide_eq_false_iff_not, Bool.not_eq_true', Bool.not_eq_false', beq_iff_eq, bne_iff_ne, beq_eq_false_iff_ne, Bool.and_eq_true, Bool.or_eq_true, Bool.and_eq_false_iff, Bool.or_eq_false_iff, ge_iff_le, gt_iff_lt, Int.not_lt, Int.not_le, ne_eq, Decidable.not_not, bne_eq_false_iff_eq] at hc4
      refine W_skip ?_
      refine bn ?_
      refine tn ?_
      refine r0 ?_
      refine sA 18 73 1 rfl rfl rfl rfl rfl rfl rfl rfl rfl (by unfold inRange; omega) ?_
      refine s1 8 81 2 rfl rfl rfl rfl rfl rfl trivial ?_
      refine e1 89 rfl ?_
      refine tn ?_
      exact again (n + 1) [0] ⟨by omega, fun j hj => by by_cases e : j = n; (subst e; exact hc4); exact hno j (by omega)⟩ (by omega) rfl ⟨rfl, rfl, rfl, rfl, trivial⟩ ⟨rfl, trivial⟩
  · skip
    try simp only [decide_eq_true_eq, decide_eq_false_iff_not, Bool.not_eq_true', Bool.not_eq_false', beq_iff_eq, bne_iff_ne, beq_eq_false_iff_ne, Bool.and_eq_true, Bool.or_eq_true, Bool.and_eq_false_iff, Bool.or_eq_false_iff, ge_iff_le, gt_iff_lt, Int.not_lt, Int.not_le, ne_eq, Decidable.not_not, bne_eq_false_iff_eq] at hc2
    refine W_exit ?_
    refine tx ?_
    refine tx ?_
    refine bx ?_
    refine tn ?_
    refine r1 ?_
    refine s1 4 9 1 rfl rfl rfl rfl rfl rfl trivial ?_
    refine e1 17 rfl ?_
    refine keep [4] rfl ?_
    refine W_ret ?_
    exact out1 4 (SV.i (firstEq l ss q)) (π := [0]) (hout := [some (.cells 56 1 [tagsV l])]) Try.results59 rfl (by rw [firstEq_none (fun j hj => hno j (by omega))]; rfl) rfl rfl ⟨rfl, trivial⟩ ⟨rfl, rfl⟩

theorem hasEq_any (l : List TagD) (ss : List (List TagD)) (q : Nat) (hq : q ≤ 9223372036854775807) (hl : l.length ≤ 9223372036854775807) : Spec Try.prog GT 41 [serV ss q, .fn 42 [.ptr 0 0 0]] [.cells 56 1 [tagsV l]] (fun r ho => r = SV.b (decide (firstEq l ss q ≥ 0)) ∧ ho = [some (.cells 56 1 [tagsV l])]) := by
  refine start 9 1 Try.func41 rfl rfl rfl rfl ?_
  refine r1 ?_
  refine s1 4 1 1 rfl rfl rfl rfl rfl rfl trivial ?_
  refine e1 9 rfl ?_
  refine keep [0, 1] rfl ?_
  refine r1 ?_
  refine s1 5 9 1 rfl rfl rfl rfl rfl rfl trivial ?_
  refine s1 6 17 2 rfl rfl rfl rfl rfl rfl trivial ?_
  refine c1 (indexEq_any l ss q hq hl) [0] [0] 7 25 3 rfl rfl rfl rfl rfl rfl rfl rfl Try.func59 rfl rfl rfl rfl ⟨rfl, trivial⟩ rfl rfl ?_
  refine s1 8 33 4 rfl rfl rfl rfl rfl rfl (by first | trivial | omega | (simp only [List.length_map, List.length_append, List.length_cons, List.length_nil] at *; omega)) ?_
  refine s1 4 41 5 rfl rfl rfl rfl rfl rfl trivial ?_
  refine e1 49 rfl ?_
  refine keep [4] rfl ?_
  refine W_ret ?_
  exact out1 4 (SV.b (decide (firstEq l ss q ≥ 0))) (π := [0]) (hout := [some (.cells 56 1 [tagsV l])]) Try.results41 rfl rfl rfl rfl ⟨rfl, trivial⟩ ⟨rfl, rfl⟩

end Go.Proofs.Ytlhncpbcbpdcfaa.Nice
