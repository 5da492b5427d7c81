/- What samples come to: the program's joins and the document's. -/
import Derived.Test.YtiedndnegmbkiaaProg
import Derived.Test.YtiedndnegmbkiaaNiceN
namespace Go.Proofs.Ytiedndnegmbkiaa.Nice
open Go
set_option linter.unusedVariables false
set_option linter.unusedSimpArgs false
set_option maxRecDepth 100000
def G0 : Nat → SV := fun _ => .any
structure Roll where
  c : Int
  lo : Int
  hi : Int
  s : Int
  deriving DecidableEq
def rollS (r : Roll) : SV := .agg [SV.i r.c, SV.i r.lo, SV.i r.hi, SV.i r.s]
def Roll.ok (r : Roll) : Prop := inRange r.c ∧ inRange r.lo ∧ inRange r.hi ∧ inRange r.s
def inB (n : Int) : Bool := decide (-2305843009213693952 ≤ n) && decide (n < 2305843009213693952)
def mayB (r : Roll) : Bool := (decide (r.c = 0) && (decide (r.lo = 0) && (decide (r.hi = 0) && decide (r.s = 0)))) || (decide (0 < r.c) && (decide (r.c ≤ 1048576) && (decide (r.lo ≤ r.hi) && (inB r.lo && (inB r.hi && inB r.s)))))
def joined (a b : Roll) : Roll := if a.c = 0 then b else if b.c = 0 then a else ⟨a.c + b.c, if b.lo < a.lo then b.lo else a.lo, if a.hi < b.hi then b.hi else a.hi, a.s + b.s⟩
def join (a b : Roll) : Roll × Int := if mayB a = true ∧ mayB b = true then (if mayB (joined a b) = true then (joined a b, 0) else (⟨0, 0, 0, 0⟩, 11)) else (⟨0, 0, 0, 0⟩, 4)
theorem join_form {a b : Roll} (h : ¬ (mayB a = true ∧ mayB b = true)) : join a b = (⟨0, 0, 0, 0⟩, 4) := by unfold join; rw [if_neg h]
theorem join_over {a b : Roll} (h : mayB a = true) (h1 : mayB b = true) (h2 : mayB (joined a b) = false) : join a b = (⟨0, 0, 0, 0⟩, 11) := by unfold join; rw [if_pos ⟨h, h1⟩, if_neg (by rw [h2]; decide)]
theorem join_ok {a b : Roll} (h : mayB a = true) (h1 : mayB b = true) (h2 : mayB (joined a b) = true) : join a b = (joined a b, 0) := by unfold join; rw [if_pos ⟨h, h1⟩, if_pos h2]
theorem may_out {r : Roll} (h : mayB r = true) : (r.c = 0 ∧ r.lo = 0 ∧ r.hi = 0 ∧ r.s = 0) ∨ (0 < r.c ∧ r.c ≤ 1048576 ∧ r.lo ≤ r.hi ∧ -2305843009213693952 ≤ r.lo ∧ r.hi < 2305843009213693952 ∧ -2305843009213693952 ≤ r.s ∧ r.s < 2305843009213693952) := by
  simp [mayB, inB] at h
  omega
def at3 (a b d : Int) : Nat → Int
  | 0 => a
  | 1 => b
  | _ => d
def tri (a b d : Int) : Nat → Nat → D := fun i _ => .val (.int .i64 (at3 a b d i))
theorem all3 {a b d : Int} (h : ∀ j, j < 3 → inB (at3 a b d j) = true) : inB a = true ∧ inB b = true ∧ inB d = true := ⟨h 0 (by omega), h 1 (by omega), h 2 (by omega)⟩
theorem not3 {a b d : Int} {n : Nat} (hn : n < 3) (h : inB (at3 a b d n) = false) : (inB a && (inB b && inB d)) = false := by
  match n, hn with
  | 0, _ => have h : inB a = false := h; rw [h]; rfl
  | 1, _ => have h : inB b = false := h; rw [h]; simp
  | 2, _ => have h : inB d = false := h; rw [h]; simp

theorem within_any (a b d : Int) : Spec Try.prog G0 10 [.sl 0 0 3] [.cells 3 1 [SV.i a, SV.i b, SV.i d]] (fun r ho => r = SV.b (inB a && (inB b && inB d)) ∧ ho = [none]) := by
  refine start 18 1 Try.func10 rfl rfl rfl rfl ?_
  refine torows 0 3 (tri a b d) rfl (by decide) (Nat.le_refl _) (fun i c hi hc => by have hc1 : c < 1 := hc; obtain rfl : c = 0 := (by omega); match i, hi with | 0, _ => rfl | 1, _ => rfl | 2, _ => rfl) ?_
  refine freeze 0 0 3 rfl rfl (Nat.le_refl _) ?_
  refine r1 ?_
  refine s1 2 1 1 rfl rfl rfl rfl rfl rfl trivial ?_
  refine e1 9 rfl ?_
  refine keep [0] rfl ?_
  refine W_seq ?_
  refine r1 ?_
  refine s1 5 9 1 rfl rfl rfl rfl rfl rfl trivial ?_
  refine s1 6 17 2 rfl rfl rfl rfl rfl rfl (by first | trivial | omega | (simp only [List.length_map, List.length_append, List.length_cons, List.length_nil] at *; omega)) ?_
  refine s1 7 25 3 rfl rfl rfl rfl rfl rfl trivial ?_
  refine e1 33 rfl ?_
  refine keep [5, 6, 7] rfl ?_
  refine W_block ?_
  refine loop (α := Nat) 1 (fun n => [(5, .d (.vec 1 3 (tri a b d))), (6, SV.i 3), (7, SV.i n)]) (fun n => [none]) (fun n => n ≤ 3 ∧ ∀ j, j < n → inB (at3 a b d j) = true) (fun n => 3 - n) (0) [0] (fun _ => rfl) ⟨Nat.zero_le _, fun j hj => by omega⟩ rfl ⟨rfl, rfl, rfl, trivial⟩ trivial (fun n hx => ?_)
  obtain ⟨hn, hno⟩ := hx
  refine r1 ?_
  refine s1 8 1 1 rfl rfl rfl rfl rfl rfl (by first | trivial | omega | (simp only [List.length_map, List.length_append, List.length_cons, List.length_nil] at *; omega)) ?_
  refine e1 9 rfl ?_
  refine keep [5, 6, 7, 8] rfl ?_
  refine W_seq ?_
  refine q1 rfl (fun hc2 => ?_) (fun hc2 => ?_)
  · skip
    try simp only [decide_eq_true_eq, decide_eq_false_iff_not, Bool.not_eq_true', Bool.not_eq_false', beq_iff_eq, bne_iff_ne, beq_eq_false_iff_ne, Bool.and_eq_true, Bool.or_eq_true, Bool.and_eq_false_iff, Bool.or_eq_false_iff, ge_iff_le, gt_iff_lt, Int.not_lt, Int.not_le, ne_eq, Decidable.not_not, bne_eq_false_iff_eq] at hc2
    refine W_skip ?_
    refine tn ?_
    refine W_seq ?_
    refine W_block ?_
    refine r1 ?_
    refine s1 9 9 1 rfl rfl rfl rfl rfl rfl (by omega) ?_
    refine s1 10 17 2 rfl rfl rfl rfl rfl rfl (by omega) ?_
    refine s1 4 25 3 rfl rfl rfl rfl rfl rfl trivial ?_
    refine e1 33 rfl ?_
    refine keep [4, 5, 6, 7] rfl ?_
    refine r1 ?_
    refine s1 11 33 1 rfl rfl rfl rfl rfl rfl trivial ?_
    refine s1 12 41 2 rfl rfl rfl rfl rfl rfl (by first | trivial | omega | (simp only [List.length_map, List.length_append, List.length_cons, List.length_nil] at *; omega)) ?_
    refine s1 13 49 3 rfl rfl rfl rfl rfl rfl trivial ?_
    refine ask 13 rfl (fun hg4_13 => ?_) (fun hg4_13 => ?_)
    · skip
      try simp only [decide_eq_true_eq, decide_eq_false_iff_not, Bool.not_eq_true', Bool.not_eq_false', beq_iff_eq, bne_iff_ne, beq_eq_false_iff_ne, Bool.and_eq_true, Bool.or_eq_true, Bool.and_eq_false_iff, Bool.or_eq_false_iff, ge_iff_le, gt_iff_lt, Int.not_lt, Int.not_le, ne_eq, Decidable.not_not, bne_eq_false_iff_eq] at hg4_13
      refine g0 2 false 13 14 4 rfl rfl rfl rfl rfl rfl ?_
      refine g0 2 false 13 15 5 rfl rfl rfl rfl rfl rfl ?_
      refine s1 16 73 6 rfl rfl rfl rfl rfl rfl trivial ?_
      refine e1 81 rfl ?_
      refine keep [5, 6, 7, 16] rfl ?_
      refine q1 rfl (fun hc4 => ?_) (fun hc4 => ?_)
      · skip
        try simp only [decide_eq_true_eq, decide_eq_false_iff_not, Bool.not_eq_true', Bool.not_eq_false', beq_iff_eq, bne_iff_ne, beq_eq_false_iff_ne, Bool.and_eq_true, Bool.or_eq_true, Bool.and_eq_false_iff, Bool.or_eq_false_iff, ge_iff_le, gt_iff_lt, Int.not_lt, Int.not_le, ne_eq, Decidable.not_not, bne_eq_false_iff_eq] at hc4
        refine r1 ?_
        refine s1 2 81 1 rfl rfl rfl rfl rfl rfl trivial ?_
        refine e1 89 rfl ?_
        refine keep [2] rfl ?_
        refine W_ret ?_
        refine br ?_
        refine tr ?_
        refine tr ?_
        refine br ?_
        refine tr ?_
        exact out1 2 (SV.b (inB a && (inB b && inB d))) (π := [0]) (hout := [none]) Try.results10 rfl (by rw [not3 (n := n) (by omega) (by simp only [Int.toNat_natCast] at *; simp [inB]; omega)]; rfl) rfl rfl trivial ⟨rfl, rfl⟩
      · skip
        exact absurd hc4 (by decide)
    · skip
      try simp only [decide_eq_true_eq, decide_eq_false_iff_not, Bool.not_eq_true', Bool.not_eq_false', beq_iff_eq, bne_iff_ne, beq_eq_false_iff_ne, Bool.and_eq_true, Bool.or_eq_true, Bool.and_eq_false_iff, Bool.or_eq_false_iff, ge_iff_le, gt_iff_lt, Int.not_lt, Int.not_le, ne_eq, Decidable.not_not, bne_eq_false_iff_eq] at hg4_13
      refine g1 2 false 13 14 4 rfl rfl rfl rfl rfl ?_
      refine s1 14 57 4 rfl rfl rfl rfl rfl rfl trivial ?_
      refine g1 2 false 13 15 5 rfl rfl rfl rfl rfl ?_
      refine s1 15 65 5 rfl rfl rfl rfl rfl rfl (by first | trivial | omega | (simp only [List.length_map, List.length_append, List.length_cons, List.length_nil] at *; omega)) ?_
      refine s1 16 73 6 rfl rfl rfl rfl rfl rfl trivial ?_
      refine e1 81 rfl ?_
      refine keep [5, 6, 7, 16] rfl ?_
      refine q1 rfl (fun hc4 => ?_) (fun hc4 => ?_)
      · skip
        try simp only [decide_eq_true_eq, decide_eq_false_iff_not, Bool.not_eq_true', Bool.not_eq_false', beq_iff_eq, bne_iff_ne, beq_eq_false_iff_ne, Bool.and_eq_true, Bool.or_eq_true, Bool.and_eq_false_iff, Bool.or_eq_false_iff, ge_iff_le, gt_iff_lt, Int.not_lt, Int.not_le, ne_eq, Decidable.not_not, bne_eq_false_iff_eq] at hc4
        refine r1 ?_
        refine s1 2 81 1 rfl rfl rfl rfl rfl rfl trivial ?_
        refine e1 89 rfl ?_
        refine keep [2] rfl ?_
        refine W_ret ?_
        refine br ?_
        refine tr ?_
        refine tr ?_
        refine br ?_
        refine tr ?_
        exact out1 2 (SV.b (inB a && (inB b && inB d))) (π := [0]) (hout := [none]) Try.results10 rfl (by rw [not3 (n := n) (by omega) (by simp only [Int.toNat_natCast] at *; simp [inB]; omega)]; rfl) rfl rfl trivial ⟨rfl, rfl⟩
      · skip
        try simp only [decide_eq_true_eq, decide_eq_false_iff_not, Bool.not_eq_true', Bool.not_eq_false', beq_iff_eq, bne_iff_ne, beq_eq_false_iff_ne, Bool.and_eq_true, Bool.or_eq_true, Bool.and_eq_false_iff, Bool.or_eq_false_iff, ge_iff_le, gt_iff_lt, Int.not_lt, Int.not_le, ne_eq, Decidable.not_not, bne_eq_false_iff_eq] at hc4
        refine W_skip ?_
        refine bn ?_
        refine tn ?_
        refine r0 ?_
        refine sA 17 81 1 rfl rfl rfl rfl rfl rfl rfl rfl rfl (by unfold inRange; omega) ?_
        refine s1 7 89 2 rfl rfl rfl rfl rfl rfl trivial ?_
        refine e1 97 rfl ?_
        refine tn ?_
        exact again (n + 1) [0] ⟨by omega, fun j hj => by by_cases e : j = n; (subst e; clear hno; simp only [Int.toNat_natCast] at *; simp [inB]; omega); exact hno j (by omega)⟩ (by omega) rfl ⟨rfl, rfl, rfl, trivial⟩ trivial
  · skip
    try simp only [decide_eq_true_eq, decide_eq_false_iff_not, Bool.not_eq_true', Bool.not_eq_false', beq_iff_eq, bne_iff_ne, beq_eq_false_iff_ne, Bool.and_eq_true, Bool.or_eq_true, Bool.and_eq_false_iff, Bool.or_eq_false_iff, ge_iff_le, gt_iff_lt, Int.not_lt, Int.not_le, ne_eq, Decidable.not_not, bne_eq_false_iff_eq] at hc2
    refine W_exit ?_
    refine tx ?_
    refine tx ?_
    refine bx ?_
    refine tn ?_
    refine r1 ?_
    refine s1 2 9 1 rfl rfl rfl rfl rfl rfl trivial ?_
    refine e1 17 rfl ?_
    refine keep [2] rfl ?_
    refine W_ret ?_
    exact out1 2 (SV.b (inB a && (inB b && inB d))) (π := [0]) (hout := [none]) Try.results10 rfl (by obtain ⟨h1, h2, h3⟩ := all3 (fun j hj => hno j (by omega)); rw [h1, h2, h3]; rfl) rfl rfl trivial ⟨rfl, rfl⟩

theorem may_any (q : Roll) : Spec Try.prog G0 6 [rollS q] [] (fun r ho => r = SV.b (mayB q) ∧ ho = []) := by
  refine start 34 0 Try.func6 rfl rfl rfl rfl ?_
  refine r1 ?_
  refine s1 1 0 1 rfl rfl rfl rfl rfl rfl trivial ?_
  refine s1 2 8 2 rfl rfl rfl rfl rfl rfl trivial ?_
  refine e1 16 rfl ?_
  refine keep [1] rfl ?_
  refine W_seq ?_
  refine r1 ?_
  refine s1 3 16 1 rfl rfl rfl rfl rfl rfl trivial ?_
  refine s1 4 24 2 rfl rfl rfl rfl rfl rfl (by first | trivial | omega | (simp only [List.length_map, List.length_append, List.length_cons, List.length_nil] at *; omega)) ?_
  refine s1 5 32 3 rfl rfl rfl rfl rfl rfl (by first | trivial | omega | (simp only [List.length_map, List.length_append, List.length_cons, List.length_nil] at *; omega)) ?_
  refine e1 40 rfl ?_
  refine keep [1, 5] rfl ?_
  refine q1 rfl (fun hc1 => ?_) (fun hc1 => ?_)
  · skip
    try simp only [decide_eq_true_eq, decide_eq_false_iff_not, Bool.not_eq_true', Bool.not_eq_false', beq_iff_eq, bne_iff_ne, beq_eq_false_iff_ne, Bool.and_eq_true, Bool.or_eq_true, Bool.and_eq_false_iff, Bool.or_eq_false_iff, ge_iff_le, gt_iff_lt, Int.not_lt, Int.not_le, ne_eq, Decidable.not_not, bne_eq_false_iff_eq] at hc1
    refine r1 ?_
    refine s1 6 40 1 rfl rfl rfl rfl rfl rfl (by first | trivial | omega | (simp only [List.length_map, List.length_append, List.length_cons, List.length_nil] at *; omega)) ?_
    refine s1 7 48 2 rfl rfl rfl rfl rfl rfl trivial ?_
    refine sEq (op := .eql) 8 56 3 rfl rfl rfl rfl rfl rfl rfl rfl rfl (by kernel_rfl) (by kernel_rfl) rfl (.inl ⟨rfl, rfl⟩) ?_
    refine s1 2 64 4 rfl rfl rfl rfl rfl rfl trivial ?_
    refine e1 72 rfl ?_
    refine keep [2] rfl ?_
    refine W_ret ?_
    refine tr ?_
    exact out1 2 (SV.b (mayB q)) (π := []) (hout := []) Try.results6 rfl (by show SV.b _ = SV.b _; refine congrArg SV.b (Bool.eq_iff_iff.2 ?_); cases h1 : inB q.lo <;> cases h2 : inB q.hi <;> cases h3 : inB q.s <;> simp [mayB, h1, h2, h3] at * <;> omega) rfl rfl trivial ⟨rfl, rfl⟩
  · skip
    try simp only [decide_eq_true_eq, decide_eq_false_iff_not, Bool.not_eq_true', Bool.not_eq_false', beq_iff_eq, bne_iff_ne, beq_eq_false_iff_ne, Bool.and_eq_true, Bool.or_eq_true, Bool.and_eq_false_iff, Bool.or_eq_false_iff, ge_iff_le, gt_iff_lt, Int.not_lt, Int.not_le, ne_eq, Decidable.not_not, bne_eq_false_iff_eq] at hc1
    refine W_skip ?_
    refine tn ?_
    refine r1 ?_
    refine s1 9 40 1 rfl rfl rfl rfl rfl rfl trivial ?_
    refine s1 10 48 2 rfl rfl rfl rfl rfl rfl (by first | trivial | omega | (simp only [List.length_map, List.length_append, List.length_cons, List.length_nil] at *; omega)) ?_
    refine s1 11 56 3 rfl rfl rfl rfl rfl rfl (by first | trivial | omega | (simp only [List.length_map, List.length_append, List.length_cons, List.length_nil] at *; omega)) ?_
    refine s1 12 64 4 rfl rfl rfl rfl rfl rfl trivial ?_
    refine ask 12 rfl (fun hg3_12 => ?_) (fun hg3_12 => ?_)
    · skip
      try simp only [decide_eq_true_eq, decide_eq_false_iff_not, Bool.not_eq_true', Bool.not_eq_false', beq_iff_eq, bne_iff_ne, beq_eq_false_iff_ne, Bool.and_eq_true, Bool.or_eq_true, Bool.and_eq_false_iff, Bool.or_eq_false_iff, ge_iff_le, gt_iff_lt, Int.not_lt, Int.not_le, ne_eq, Decidable.not_not, bne_eq_false_iff_eq] at hg3_12
      refine g1 3 true 12 13 5 rfl rfl rfl rfl rfl ?_
      refine s1 13 72 5 rfl rfl rfl rfl rfl rfl trivial ?_
      refine g1 3 true 12 14 6 rfl rfl rfl rfl rfl ?_
      refine s1 14 80 6 rfl rfl rfl rfl rfl rfl (by first | trivial | omega | (simp only [List.length_map, List.length_append, List.length_cons, List.length_nil] at *; omega)) ?_
      refine g1 3 true 12 15 7 rfl rfl rfl rfl rfl ?_
      refine s1 15 88 7 rfl rfl rfl rfl rfl rfl (by first | trivial | omega | (simp only [List.length_map, List.length_append, List.length_cons, List.length_nil] at *; omega)) ?_
      refine s1 16 96 8 rfl rfl rfl rfl rfl rfl trivial ?_
      refine s1 17 104 9 rfl rfl rfl rfl rfl rfl trivial ?_
      refine ask 17 rfl (fun hg3_17 => ?_) (fun hg3_17 => ?_)
      · skip
        try simp only [decide_eq_true_eq, decide_eq_false_iff_not, Bool.not_eq_true', Bool.not_eq_false', beq_iff_eq, bne_iff_ne, beq_eq_false_iff_ne, Bool.and_eq_true, Bool.or_eq_true, Bool.and_eq_false_iff, Bool.or_eq_false_iff, ge_iff_le, gt_iff_lt, Int.not_lt, Int.not_le, ne_eq, Decidable.not_not, bne_eq_false_iff_eq] at hg3_17
        refine g1 8 true 17 18 10 rfl rfl rfl rfl rfl ?_
        refine s1 18 112 10 rfl rfl rfl rfl rfl rfl trivial ?_
        refine g1 8 true 17 19 11 rfl rfl rfl rfl rfl ?_
        refine s1 19 120 11 rfl rfl rfl rfl rfl rfl (by first | trivial | omega | (simp only [List.length_map, List.length_append, List.length_cons, List.length_nil] at *; omega)) ?_
        refine g1 8 true 17 20 12 rfl rfl rfl rfl rfl ?_
        refine s1 20 128 12 rfl rfl rfl rfl rfl rfl trivial ?_
        refine g1 8 true 17 21 13 rfl rfl rfl rfl rfl ?_
        refine s1 21 136 13 rfl rfl rfl rfl rfl rfl (by first | trivial | omega | (simp only [List.length_map, List.length_append, List.length_cons, List.length_nil] at *; omega)) ?_
        refine g1 8 true 17 22 14 rfl rfl rfl rfl rfl ?_
        refine s1 22 144 14 rfl rfl rfl rfl rfl rfl (by first | trivial | omega | (simp only [List.length_map, List.length_append, List.length_cons, List.length_nil] at *; omega)) ?_
        refine s1 23 152 15 rfl rfl rfl rfl rfl rfl trivial ?_
        refine s1 24 160 16 rfl rfl rfl rfl rfl rfl trivial ?_
        refine ask 24 rfl (fun hg3_24 => ?_) (fun hg3_24 => ?_)
        · skip
          try simp only [decide_eq_true_eq, decide_eq_false_iff_not, Bool.not_eq_true', Bool.not_eq_false', beq_iff_eq, bne_iff_ne, beq_eq_false_iff_ne, Bool.and_eq_true, Bool.or_eq_true, Bool.and_eq_false_iff, Bool.or_eq_false_iff, ge_iff_le, gt_iff_lt, Int.not_lt, Int.not_le, ne_eq, Decidable.not_not, bne_eq_false_iff_eq] at hg3_24
          refine g1 15 true 24 25 17 rfl rfl rfl rfl rfl ?_
          refine s1 25 168 17 rfl rfl rfl rfl rfl rfl trivial ?_
          refine g1 15 true 24 26 18 rfl rfl rfl rfl rfl ?_
          refine s1 26 176 18 rfl rfl rfl rfl rfl rfl (by first | trivial | omega | (simp only [List.length_map, List.length_append, List.length_cons, List.length_nil] at *; omega)) ?_
          refine g1 15 true 24 27 19 rfl rfl rfl rfl rfl ?_
          refine s1 27 184 19 rfl rfl rfl rfl rfl rfl trivial ?_
          refine g1 15 true 24 28 20 rfl rfl rfl rfl rfl ?_
          refine s1 28 192 20 rfl rfl rfl rfl rfl rfl (by first | trivial | omega | (simp only [List.length_map, List.length_append, List.length_cons, List.length_nil] at *; omega)) ?_
          refine g1 15 true 24 29 21 rfl rfl rfl rfl rfl ?_
          refine s1 29 200 21 rfl rfl rfl rfl rfl rfl trivial ?_
          refine g1 15 true 24 30 22 rfl rfl rfl rfl rfl ?_
          refine s1 30 208 22 rfl rfl rfl rfl rfl rfl (by first | trivial | omega | (simp only [List.length_map, List.length_append, List.length_cons, List.length_nil] at *; omega)) ?_
          refine g1 15 true 24 31 23 rfl rfl rfl rfl rfl ?_
          refine s1 31 216 23 rfl rfl rfl rfl rfl rfl trivial ?_
          refine g1 15 true 24 32 24 rfl rfl rfl rfl rfl ?_
          refine c1 (within_any q.lo q.hi q.s) [216] [216] 32 224 24 rfl rfl rfl rfl rfl rfl rfl rfl Try.func10 rfl rfl rfl rfl ⟨rfl, trivial⟩ rfl rfl ?_
          refine s1 33 232 25 rfl rfl rfl rfl rfl rfl trivial ?_
          refine s1 2 240 26 rfl rfl rfl rfl rfl rfl trivial ?_
          refine e1 248 rfl ?_
          refine keep [2] rfl ?_
          refine W_ret ?_
          exact out1 2 (SV.b (mayB q)) (π := []) (hout := []) Try.results6 rfl (by show SV.b _ = SV.b _; refine congrArg SV.b (Bool.eq_iff_iff.2 ?_); cases h1 : inB q.lo <;> cases h2 : inB q.hi <;> cases h3 : inB q.s <;> simp [mayB, h1, h2, h3] at * <;> omega) rfl rfl trivial ⟨rfl, rfl⟩
        · skip
          try simp only [decide_eq_true_eq, decide_eq_false_iff_not, Bool.not_eq_true', Bool.not_eq_false', beq_iff_eq, bne_iff_ne, beq_eq_false_iff_ne, Bool.and_eq_true, Bool.or_eq_true, Bool.and_eq_false_iff, Bool.or_eq_false_iff, ge_iff_le, gt_iff_lt, Int.not_lt, Int.not_le, ne_eq, Decidable.not_not, bne_eq_false_iff_eq] at hg3_24
          refine g0 15 true 24 25 17 rfl rfl rfl rfl rfl rfl ?_
          refine g0 15 true 24 26 18 rfl rfl rfl rfl rfl rfl ?_
          refine g0 15 true 24 27 19 rfl rfl rfl rfl rfl rfl ?_
          refine g0 15 true 24 28 20 rfl rfl rfl rfl rfl rfl ?_
          refine g0 15 true 24 29 21 rfl rfl rfl rfl rfl rfl ?_
          refine g0 15 true 24 30 22 rfl rfl rfl rfl rfl rfl ?_
          refine g0 15 true 24 31 23 rfl rfl rfl rfl rfl rfl ?_
          refine g0 15 true 24 32 24 rfl rfl rfl rfl rfl rfl ?_
          refine s1 33 232 25 rfl rfl rfl rfl rfl rfl trivial ?_
          refine s1 2 240 26 rfl rfl rfl rfl rfl rfl trivial ?_
          refine e1 248 rfl ?_
          refine keep [2] rfl ?_
          refine W_ret ?_
          exact out1 2 (SV.b (mayB q)) (π := []) (hout := []) Try.results6 rfl (by show SV.b _ = SV.b _; refine congrArg SV.b (Bool.eq_iff_iff.2 ?_); cases h1 : inB q.lo <;> cases h2 : inB q.hi <;> cases h3 : inB q.s <;> simp [mayB, h1, h2, h3] at * <;> omega) rfl rfl trivial ⟨rfl, rfl⟩
      · skip
        try simp only [decide_eq_true_eq, decide_eq_false_iff_not, Bool.not_eq_true', Bool.not_eq_false', beq_iff_eq, bne_iff_ne, beq_eq_false_iff_ne, Bool.and_eq_true, Bool.or_eq_true, Bool.and_eq_false_iff, Bool.or_eq_false_iff, ge_iff_le, gt_iff_lt, Int.not_lt, Int.not_le, ne_eq, Decidable.not_not, bne_eq_false_iff_eq] at hg3_17
        refine g0 8 true 17 18 10 rfl rfl rfl rfl rfl rfl ?_
        refine g0 8 true 17 19 11 rfl rfl rfl rfl rfl rfl ?_
        refine g0 8 true 17 20 12 rfl rfl rfl rfl rfl rfl ?_
        refine g0 8 true 17 21 13 rfl rfl rfl rfl rfl rfl ?_
        refine g0 8 true 17 22 14 rfl rfl rfl rfl rfl rfl ?_
        refine s1 23 152 15 rfl rfl rfl rfl rfl rfl trivial ?_
        refine s1 24 160 16 rfl rfl rfl rfl rfl rfl trivial ?_
        refine g0 15 true 24 25 17 rfl rfl rfl rfl rfl rfl ?_
        refine g0 15 true 24 26 18 rfl rfl rfl rfl rfl rfl ?_
        refine g0 15 true 24 27 19 rfl rfl rfl rfl rfl rfl ?_
        refine g0 15 true 24 28 20 rfl rfl rfl rfl rfl rfl ?_
        refine g0 15 true 24 29 21 rfl rfl rfl rfl rfl rfl ?_
        refine g0 15 true 24 30 22 rfl rfl rfl rfl rfl rfl ?_
        refine g0 15 true 24 31 23 rfl rfl rfl rfl rfl rfl ?_
        refine g0 15 true 24 32 24 rfl rfl rfl rfl rfl rfl ?_
        refine s1 33 232 25 rfl rfl rfl rfl rfl rfl trivial ?_
        refine s1 2 240 26 rfl rfl rfl rfl rfl rfl trivial ?_
        refine e1 248 rfl ?_
        refine keep [2] rfl ?_
        refine W_ret ?_
        exact out1 2 (SV.b (mayB q)) (π := []) (hout := []) Try.results6 rfl (by show SV.b _ = SV.b _; refine congrArg SV.b (Bool.eq_iff_iff.2 ?_); cases h1 : inB q.lo <;> cases h2 : inB q.hi <;> cases h3 : inB q.s <;> simp [mayB, h1, h2, h3] at * <;> omega) rfl rfl trivial ⟨rfl, rfl⟩
    · skip
      try simp only [decide_eq_true_eq, decide_eq_false_iff_not, Bool.not_eq_true', Bool.not_eq_false', beq_iff_eq, bne_iff_ne, beq_eq_false_iff_ne, Bool.and_eq_true, Bool.or_eq_true, Bool.and_eq_false_iff, Bool.or_eq_false_iff, ge_iff_le, gt_iff_lt, Int.not_lt, Int.not_le, ne_eq, Decidable.not_not, bne_eq_false_iff_eq] at hg3_12
      refine g0 3 true 12 13 5 rfl rfl rfl rfl rfl rfl ?_
      refine g0 3 true 12 14 6 rfl rfl rfl rfl rfl rfl ?_
      refine g0 3 true 12 15 7 rfl rfl rfl rfl rfl rfl ?_
      refine s1 16 96 8 rfl rfl rfl rfl rfl rfl trivial ?_
      refine s1 17 104 9 rfl rfl rfl rfl rfl rfl trivial ?_
      refine g0 8 true 17 18 10 rfl rfl rfl rfl rfl rfl ?_
      refine g0 8 true 17 19 11 rfl rfl rfl rfl rfl rfl ?_
      refine g0 8 true 17 20 12 rfl rfl rfl rfl rfl rfl ?_
      refine g0 8 true 17 21 13 rfl rfl rfl rfl rfl rfl ?_
      refine g0 8 true 17 22 14 rfl rfl rfl rfl rfl rfl ?_
      refine s1 23 152 15 rfl rfl rfl rfl rfl rfl trivial ?_
      refine s1 24 160 16 rfl rfl rfl rfl rfl rfl trivial ?_
      refine g0 15 true 24 25 17 rfl rfl rfl rfl rfl rfl ?_
      refine g0 15 true 24 26 18 rfl rfl rfl rfl rfl rfl ?_
      refine g0 15 true 24 27 19 rfl rfl rfl rfl rfl rfl ?_
      refine g0 15 true 24 28 20 rfl rfl rfl rfl rfl rfl ?_
      refine g0 15 true 24 29 21 rfl rfl rfl rfl rfl rfl ?_
      refine g0 15 true 24 30 22 rfl rfl rfl rfl rfl rfl ?_
      refine g0 15 true 24 31 23 rfl rfl rfl rfl rfl rfl ?_
      refine g0 15 true 24 32 24 rfl rfl rfl rfl rfl rfl ?_
      refine s1 33 232 25 rfl rfl rfl rfl rfl rfl trivial ?_
      refine s1 2 240 26 rfl rfl rfl rfl rfl rfl trivial ?_
      refine e1 248 rfl ?_
      refine keep [2] rfl ?_
      refine W_ret ?_
      exact out1 2 (SV.b (mayB q)) (π := []) (hout := []) Try.results6 rfl (by show SV.b _ = SV.b _; refine congrArg SV.b (Bool.eq_iff_iff.2 ?_); cases h1 : inB q.lo <;> cases h2 : inB q.hi <;> cases h3 : inB q.s <;> simp [mayB, h1, h2, h3] at * <;> omega) rfl rfl trivial ⟨rfl, rfl⟩

theorem joined_any (a b : Roll) (ha : mayB a = true) (hb : mayB b = true) : Spec Try.prog G0 7 [rollS a, rollS b] [] (fun r ho => r = rollS (joined a b) ∧ ho = []) := by
  refine start 36 0 Try.func7 rfl rfl rfl rfl ?_
  refine r1 ?_
  refine s1 2 0 1 rfl rfl rfl rfl rfl rfl trivial ?_
  refine s1 3 8 2 rfl rfl rfl rfl rfl rfl trivial ?_
  refine s1 4 16 3 rfl rfl rfl rfl rfl rfl trivial ?_
  refine e1 24 rfl ?_
  refine keep [2, 3, 4] rfl ?_
  refine W_seq ?_
  refine W_block ?_
  refine r1 ?_
  refine s1 6 24 1 rfl rfl rfl rfl rfl rfl trivial ?_
  refine s1 7 32 2 rfl rfl rfl rfl rfl rfl (by first | trivial | omega | (simp only [List.length_map, List.length_append, List.length_cons, List.length_nil] at *; omega)) ?_
  refine s1 8 40 3 rfl rfl rfl rfl rfl rfl (by first | trivial | omega | (simp only [List.length_map, List.length_append, List.length_cons, List.length_nil] at *; omega)) ?_
  refine s1 5 48 4 rfl rfl rfl rfl rfl rfl trivial ?_
  refine e1 56 rfl ?_
  refine keep [2, 3, 4, 5] rfl ?_
  refine q1 rfl (fun hc1 => ?_) (fun hc1 => ?_)
  · skip
    try simp only [decide_eq_true_eq, decide_eq_false_iff_not, Bool.not_eq_true', Bool.not_eq_false', beq_iff_eq, bne_iff_ne, beq_eq_false_iff_ne, Bool.and_eq_true, Bool.or_eq_true, Bool.and_eq_false_iff, Bool.or_eq_false_iff, ge_iff_le, gt_iff_lt, Int.not_lt, Int.not_le, ne_eq, Decidable.not_not, bne_eq_false_iff_eq] at hc1
    refine r1 ?_
    refine s1 9 56 1 rfl rfl rfl rfl rfl rfl (by first | trivial | omega | (simp only [List.length_map, List.length_append, List.length_cons, List.length_nil] at *; omega)) ?_
    refine s0 64 2 rfl rfl rfl rfl rfl (by first | trivial | omega | (simp only [List.length_map, List.length_append, List.length_cons, List.length_nil] at *; omega)) ?_
    refine e1 72 rfl ?_
    refine keep [4] rfl ?_
    refine W_ret ?_
    refine br ?_
    refine tr ?_
    exact outN (rollS (joined a b)) (π := []) (hout := []) Try.results7 rfl (by trivial) (by unfold joined; rw [if_pos hc1]; rfl) rfl rfl trivial ⟨rfl, rfl⟩
  · skip
    try simp only [decide_eq_true_eq, decide_eq_false_iff_not, Bool.not_eq_true', Bool.not_eq_false', beq_iff_eq, bne_iff_ne, beq_eq_false_iff_ne, Bool.and_eq_true, Bool.or_eq_true, Bool.and_eq_false_iff, Bool.or_eq_false_iff, ge_iff_le, gt_iff_lt, Int.not_lt, Int.not_le, ne_eq, Decidable.not_not, bne_eq_false_iff_eq] at hc1
    refine r1 ?_
    refine s1 11 56 1 rfl rfl rfl rfl rfl rfl trivial ?_
    refine s1 12 64 2 rfl rfl rfl rfl rfl rfl (by first | trivial | omega | (simp only [List.length_map, List.length_append, List.length_cons, List.length_nil] at *; omega)) ?_
    refine s1 13 72 3 rfl rfl rfl rfl rfl rfl (by first | trivial | omega | (simp only [List.length_map, List.length_append, List.length_cons, List.length_nil] at *; omega)) ?_
    refine s1 10 80 4 rfl rfl rfl rfl rfl rfl trivial ?_
    refine e1 88 rfl ?_
    refine keep [2, 3, 4, 10] rfl ?_
    refine q1 rfl (fun hc3 => ?_) (fun hc3 => ?_)
    · skip
      try simp only [decide_eq_true_eq, decide_eq_false_iff_not, Bool.not_eq_true', Bool.not_eq_false', beq_iff_eq, bne_iff_ne, beq_eq_false_iff_ne, Bool.and_eq_true, Bool.or_eq_true, Bool.and_eq_false_iff, Bool.or_eq_false_iff, ge_iff_le, gt_iff_lt, Int.not_lt, Int.not_le, ne_eq, Decidable.not_not, bne_eq_false_iff_eq] at hc3
      refine r1 ?_
      refine s1 14 88 1 rfl rfl rfl rfl rfl rfl (by first | trivial | omega | (simp only [List.length_map, List.length_append, List.length_cons, List.length_nil] at *; omega)) ?_
      refine s0 96 2 rfl rfl rfl rfl rfl (by first | trivial | omega | (simp only [List.length_map, List.length_append, List.length_cons, List.length_nil] at *; omega)) ?_
      refine e1 104 rfl ?_
      refine keep [4] rfl ?_
      refine W_ret ?_
      refine br ?_
      refine tr ?_
      exact outN (rollS (joined a b)) (π := []) (hout := []) Try.results7 rfl (by trivial) (by unfold joined; rw [if_neg hc1, if_pos hc3]; rfl) rfl rfl trivial ⟨rfl, rfl⟩
    · skip
      try simp only [decide_eq_true_eq, decide_eq_false_iff_not, Bool.not_eq_true', Bool.not_eq_false', beq_iff_eq, bne_iff_ne, beq_eq_false_iff_ne, Bool.and_eq_true, Bool.or_eq_true, Bool.and_eq_false_iff, Bool.or_eq_false_iff, ge_iff_le, gt_iff_lt, Int.not_lt, Int.not_le, ne_eq, Decidable.not_not, bne_eq_false_iff_eq] at hc3
      refine W_skip ?_
      refine bn ?_
      refine tn ?_
      refine r1 ?_
      refine s1 15 88 1 rfl rfl rfl rfl rfl rfl trivial ?_
      refine s1 16 96 2 rfl rfl rfl rfl rfl rfl (by first | trivial | omega | (simp only [List.length_map, List.length_append, List.length_cons, List.length_nil] at *; omega)) ?_
      refine s1 17 104 3 rfl rfl rfl rfl rfl rfl trivial ?_
      refine s1 18 112 4 rfl rfl rfl rfl rfl rfl (by first | trivial | omega | (simp only [List.length_map, List.length_append, List.length_cons, List.length_nil] at *; omega)) ?_
      refine sA 19 120 5 rfl rfl rfl rfl rfl rfl rfl rfl rfl (by have := may_out ha; have := may_out hb; unfold inRange; omega) ?_
      refine s1 20 128 6 rfl rfl rfl rfl rfl rfl trivial ?_
      refine s1 21 136 7 rfl rfl rfl rfl rfl rfl (by first | trivial | omega | (simp only [List.length_map, List.length_append, List.length_cons, List.length_nil] at *; omega)) ?_
      refine s1 22 144 8 rfl rfl rfl rfl rfl rfl trivial ?_
      refine s1 23 152 9 rfl rfl rfl rfl rfl rfl (by first | trivial | omega | (simp only [List.length_map, List.length_append, List.length_cons, List.length_nil] at *; omega)) ?_
      refine s1 24 160 10 rfl rfl rfl rfl rfl rfl trivial ?_
      refine s1 25 168 11 rfl rfl rfl rfl rfl rfl trivial ?_
      refine s1 26 176 12 rfl rfl rfl rfl rfl rfl (by first | trivial | omega | (simp only [List.length_map, List.length_append, List.length_cons, List.length_nil] at *; omega)) ?_
      refine s1 27 184 13 rfl rfl rfl rfl rfl rfl trivial ?_
      refine s1 28 192 14 rfl rfl rfl rfl rfl rfl (by first | trivial | omega | (simp only [List.length_map, List.length_append, List.length_cons, List.length_nil] at *; omega)) ?_
      refine s1 29 200 15 rfl rfl rfl rfl rfl rfl trivial ?_
      refine s1 30 208 16 rfl rfl rfl rfl rfl rfl trivial ?_
      refine s1 31 216 17 rfl rfl rfl rfl rfl rfl (by first | trivial | omega | (simp only [List.length_map, List.length_append, List.length_cons, List.length_nil] at *; omega)) ?_
      refine s1 32 224 18 rfl rfl rfl rfl rfl rfl trivial ?_
      refine s1 33 232 19 rfl rfl rfl rfl rfl rfl (by first | trivial | omega | (simp only [List.length_map, List.length_append, List.length_cons, List.length_nil] at *; omega)) ?_
      refine sA 34 240 20 rfl rfl rfl rfl rfl rfl rfl rfl rfl (by have := may_out ha; have := may_out hb; unfold inRange; omega) ?_
      refine s1 35 248 21 rfl rfl rfl rfl rfl rfl trivial ?_
      refine s0 256 22 rfl rfl rfl rfl rfl (by first | trivial | omega | (simp only [List.length_map, List.length_append, List.length_cons, List.length_nil] at *; omega)) ?_
      refine e1 264 rfl ?_
      refine keep [4] rfl ?_
      refine W_ret ?_
      exact outN (rollS (joined a b)) (π := []) (hout := []) Try.results7 rfl (by trivial) (by unfold joined; rw [if_neg hc1, if_neg hc3]; rfl) rfl rfl trivial ⟨rfl, rfl⟩

theorem join_any (a b : Roll) : Spec Try.prog G0 4 [rollS a, rollS b] [] (fun r ho => r = SV.tup [rollS (join a b).1, SV.i (join a b).2] ∧ ho = []) := by
  refine start 24 0 Try.func4 rfl rfl rfl rfl ?_
  refine r1 ?_
  refine s1 2 0 1 rfl rfl rfl rfl rfl rfl trivial ?_
  refine s1 3 8 2 rfl rfl rfl rfl rfl rfl trivial ?_
  refine s1 4 16 3 rfl rfl rfl rfl rfl rfl trivial ?_
  refine s1 5 24 4 rfl rfl rfl rfl rfl rfl trivial ?_
  refine e1 32 rfl ?_
  refine keep [2, 3, 4] rfl ?_
  refine W_seq ?_
  refine r1 ?_
  refine s1 7 32 1 rfl rfl rfl rfl rfl rfl (by first | trivial | omega | (simp only [List.length_map, List.length_append, List.length_cons, List.length_nil] at *; omega)) ?_
  refine c1 (may_any a) [] [] 8 40 2 rfl rfl rfl rfl rfl rfl rfl rfl Try.func6 rfl rfl rfl rfl trivial rfl rfl ?_
  refine s1 9 48 3 rfl rfl rfl rfl rfl rfl trivial ?_
  refine s1 10 56 4 rfl rfl rfl rfl rfl rfl trivial ?_
  refine ask 10 rfl (fun hg1_10 => ?_) (fun hg1_10 => ?_)
  · skip
    try simp only [decide_eq_true_eq, decide_eq_false_iff_not, Bool.not_eq_true', Bool.not_eq_false', beq_iff_eq, bne_iff_ne, beq_eq_false_iff_ne, Bool.and_eq_true, Bool.or_eq_true, Bool.and_eq_false_iff, Bool.or_eq_false_iff, ge_iff_le, gt_iff_lt, Int.not_lt, Int.not_le, ne_eq, Decidable.not_not, bne_eq_false_iff_eq] at hg1_10
    refine g0 3 false 10 11 5 rfl rfl rfl rfl rfl rfl ?_
    refine g0 3 false 10 12 6 rfl rfl rfl rfl rfl rfl ?_
    refine g0 3 false 10 13 7 rfl rfl rfl rfl rfl rfl ?_
    refine s1 14 88 8 rfl rfl rfl rfl rfl rfl trivial ?_
    refine e1 96 rfl ?_
    refine keep [2, 3, 4, 14] rfl ?_
    refine q1 rfl (fun hc1 => ?_) (fun hc1 => ?_)
    · skip
      try simp only [decide_eq_true_eq, decide_eq_false_iff_not, Bool.not_eq_true', Bool.not_eq_false', beq_iff_eq, bne_iff_ne, beq_eq_false_iff_ne, Bool.and_eq_true, Bool.or_eq_true, Bool.and_eq_false_iff, Bool.or_eq_false_iff, ge_iff_le, gt_iff_lt, Int.not_lt, Int.not_le, ne_eq, Decidable.not_not, bne_eq_false_iff_eq] at hc1
      refine r1 ?_
      refine s1 15 96 1 rfl rfl rfl rfl rfl rfl trivial ?_
      refine s0 104 2 rfl rfl rfl rfl rfl (by first | trivial | omega | (simp only [List.length_map, List.length_append, List.length_cons, List.length_nil] at *; omega)) ?_
      refine s1 5 112 3 rfl rfl rfl rfl rfl rfl trivial ?_
      refine e1 120 rfl ?_
      refine keep [4, 5] rfl ?_
      refine W_ret ?_
      refine tr ?_
      exact outN (SV.tup [rollS (join a b).1, SV.i (join a b).2]) (π := []) (hout := []) Try.results4 rfl (by trivial) (by rw [join_form (by simp [*])]; rfl) rfl rfl trivial ⟨rfl, rfl⟩
    · skip
      exact absurd hc1 (by decide)
  · skip
    try simp only [decide_eq_true_eq, decide_eq_false_iff_not, Bool.not_eq_true', Bool.not_eq_false', beq_iff_eq, bne_iff_ne, beq_eq_false_iff_ne, Bool.and_eq_true, Bool.or_eq_true, Bool.and_eq_false_iff, Bool.or_eq_false_iff, ge_iff_le, gt_iff_lt, Int.not_lt, Int.not_le, ne_eq, Decidable.not_not, bne_eq_false_iff_eq] at hg1_10
    refine g1 3 false 10 11 5 rfl rfl rfl rfl rfl ?_
    refine s1 11 64 5 rfl rfl rfl rfl rfl rfl (by first | trivial | omega | (simp only [List.length_map, List.length_append, List.length_cons, List.length_nil] at *; omega)) ?_
    refine g1 3 false 10 12 6 rfl rfl rfl rfl rfl ?_
    refine c1 (may_any b) [] [] 12 72 6 rfl rfl rfl rfl rfl rfl rfl rfl Try.func6 rfl rfl rfl rfl trivial rfl rfl ?_
    refine g1 3 false 10 13 7 rfl rfl rfl rfl rfl ?_
    refine s1 13 80 7 rfl rfl rfl rfl rfl rfl trivial ?_
    refine s1 14 88 8 rfl rfl rfl rfl rfl rfl trivial ?_
    refine e1 96 rfl ?_
    refine keep [2, 3, 4, 14] rfl ?_
    refine q1 rfl (fun hc1 => ?_) (fun hc1 => ?_)
    · skip
      try simp only [decide_eq_true_eq, decide_eq_false_iff_not, Bool.not_eq_true', Bool.not_eq_false', beq_iff_eq, bne_iff_ne, beq_eq_false_iff_ne, Bool.and_eq_true, Bool.or_eq_true, Bool.and_eq_false_iff, Bool.or_eq_false_iff, ge_iff_le, gt_iff_lt, Int.not_lt, Int.not_le, ne_eq, Decidable.not_not, bne_eq_false_iff_eq] at hc1
      refine r1 ?_
      refine s1 15 96 1 rfl rfl rfl rfl rfl rfl trivial ?_
      refine s0 104 2 rfl rfl rfl rfl rfl (by first | trivial | omega | (simp only [List.length_map, List.length_append, List.length_cons, List.length_nil] at *; omega)) ?_
      refine s1 5 112 3 rfl rfl rfl rfl rfl rfl trivial ?_
      refine e1 120 rfl ?_
      refine keep [4, 5] rfl ?_
      refine W_ret ?_
      refine tr ?_
      exact outN (SV.tup [rollS (join a b).1, SV.i (join a b).2]) (π := []) (hout := []) Try.results4 rfl (by trivial) (by rw [join_form (by simp [*])]; rfl) rfl rfl trivial ⟨rfl, rfl⟩
    · skip
      try simp only [decide_eq_true_eq, decide_eq_false_iff_not, Bool.not_eq_true', Bool.not_eq_false', beq_iff_eq, bne_iff_ne, beq_eq_false_iff_ne, Bool.and_eq_true, Bool.or_eq_true, Bool.and_eq_false_iff, Bool.or_eq_false_iff, ge_iff_le, gt_iff_lt, Int.not_lt, Int.not_le, ne_eq, Decidable.not_not, bne_eq_false_iff_eq] at hc1
      refine W_skip ?_
      refine tn ?_
      refine r1 ?_
      refine s1 16 96 1 rfl rfl rfl rfl rfl rfl (by first | trivial | omega | (simp only [List.length_map, List.length_append, List.length_cons, List.length_nil] at *; omega)) ?_
      refine s1 17 104 2 rfl rfl rfl rfl rfl rfl (by first | trivial | omega | (simp only [List.length_map, List.length_append, List.length_cons, List.length_nil] at *; omega)) ?_
      refine c1 (joined_any a b hg1_10 hc1) [] [] 18 112 3 rfl rfl rfl rfl rfl rfl rfl rfl Try.func7 rfl rfl rfl rfl trivial rfl rfl ?_
      refine s1 6 120 4 rfl rfl rfl rfl rfl rfl trivial ?_
      refine s0 128 5 rfl rfl rfl rfl rfl (by first | trivial | omega | (simp only [List.length_map, List.length_append, List.length_cons, List.length_nil] at *; omega)) ?_
      refine e1 136 rfl ?_
      refine keep [4, 6] rfl ?_
      refine W_seq ?_
      refine r1 ?_
      refine s1 19 136 1 rfl rfl rfl rfl rfl rfl (by first | trivial | omega | (simp only [List.length_map, List.length_append, List.length_cons, List.length_nil] at *; omega)) ?_
      refine c1 (may_any (joined a b)) [] [] 20 144 2 rfl rfl rfl rfl rfl rfl rfl rfl Try.func6 rfl rfl rfl rfl trivial rfl rfl ?_
      refine s1 21 152 3 rfl rfl rfl rfl rfl rfl trivial ?_
      refine e1 160 rfl ?_
      refine keep [4, 6, 21] rfl ?_
      refine q1 rfl (fun hc4 => ?_) (fun hc4 => ?_)
      · skip
        try simp only [decide_eq_true_eq, decide_eq_false_iff_not, Bool.not_eq_true', Bool.not_eq_false', beq_iff_eq, bne_iff_ne, beq_eq_false_iff_ne, Bool.and_eq_true, Bool.or_eq_true, Bool.and_eq_false_iff, Bool.or_eq_false_iff, ge_iff_le, gt_iff_lt, Int.not_lt, Int.not_le, ne_eq, Decidable.not_not, bne_eq_false_iff_eq] at hc4
        refine r1 ?_
        refine s1 22 160 1 rfl rfl rfl rfl rfl rfl trivial ?_
        refine s0 168 2 rfl rfl rfl rfl rfl (by first | trivial | omega | (simp only [List.length_map, List.length_append, List.length_cons, List.length_nil] at *; omega)) ?_
        refine s1 5 176 3 rfl rfl rfl rfl rfl rfl trivial ?_
        refine e1 184 rfl ?_
        refine keep [4, 5] rfl ?_
        refine W_ret ?_
        refine tr ?_
        exact outN (SV.tup [rollS (join a b).1, SV.i (join a b).2]) (π := []) (hout := []) Try.results4 rfl (by trivial) (by rw [join_over hg1_10 hc1 hc4]; rfl) rfl rfl trivial ⟨rfl, rfl⟩
      · skip
        try simp only [decide_eq_true_eq, decide_eq_false_iff_not, Bool.not_eq_true', Bool.not_eq_false', beq_iff_eq, bne_iff_ne, beq_eq_false_iff_ne, Bool.and_eq_true, Bool.or_eq_true, Bool.and_eq_false_iff, Bool.or_eq_false_iff, ge_iff_le, gt_iff_lt, Int.not_lt, Int.not_le, ne_eq, Decidable.not_not, bne_eq_false_iff_eq] at hc4
        refine W_skip ?_
        refine tn ?_
        refine r1 ?_
        refine s1 23 160 1 rfl rfl rfl rfl rfl rfl (by first | trivial | omega | (simp only [List.length_map, List.length_append, List.length_cons, List.length_nil] at *; omega)) ?_
        refine s0 168 2 rfl rfl rfl rfl rfl (by first | trivial | omega | (simp only [List.length_map, List.length_append, List.length_cons, List.length_nil] at *; omega)) ?_
        refine s1 5 176 3 rfl rfl rfl rfl rfl rfl trivial ?_
        refine e1 184 rfl ?_
        refine keep [4, 5] rfl ?_
        refine W_ret ?_
        exact outN (SV.tup [rollS (join a b).1, SV.i (join a b).2]) (π := []) (hout := []) Try.results4 rfl (by trivial) (by rw [join_ok hg1_10 hc1 hc4]; rfl) rfl rfl trivial ⟨rfl, rfl⟩


def stepR (r : Roll) (n : Nat) (v : Int) : Roll := ⟨r.c + 1, if n = 0 ∨ v < r.lo then v else r.lo, if n = 0 ∨ r.hi < v then v else r.hi, r.s + v⟩
def foldTo (l : List Int) : Nat → Roll
  | 0 => ⟨0, 0, 0, 0⟩
  | n + 1 => stepR (foldTo l n) n (l.getD n 0)
def intsF (l : List Int) : Nat → Nat → D := fun i _ => .val (.int .i64 (l.getD i 0))
def intsV (l : List Int) : SV := .d (.vec 1 l.length (intsF l))
def rollBlk (r : Roll) : Blk := .cells 23 4 [SV.i r.c, SV.i r.lo, SV.i r.hi, SV.i r.s]
theorem blk_eq {c lo hi s : Int} {r : Roll} (h1 : c = r.c) (h2 : lo = r.lo) (h3 : hi = r.hi) (h4 : s = r.s) : Blk.cells 23 4 [SV.i c, SV.i lo, SV.i hi, SV.i s] = rollBlk r := by
  rw [h1, h2, h3, h4]; rfl
theorem fold_c (l : List Int) : ∀ n, (foldTo l n).c = n
  | 0 => rfl
  | n + 1 => by show (foldTo l n).c + 1 = _; rw [fold_c l n]; omega
theorem fold_s {l : List Int} (h : ∀ j, j < l.length → -2305843009213693952 ≤ l.getD j 0 ∧ l.getD j 0 < 2305843009213693952) : ∀ n, n ≤ l.length → -(n * 2305843009213693952) ≤ (foldTo l n).s ∧ (foldTo l n).s ≤ n * 2305843009213693951
  | 0, _ => by simp [foldTo]
  | n + 1, hn => by
    have := fold_s h n (by omega)
    have := h n (by omega)
    show _ ≤ (foldTo l n).s + l.getD n 0 ∧ (foldTo l n).s + l.getD n 0 ≤ _
    omega
theorem fold_in {l : List Int} (hl : l.length ≤ 4) (h : ∀ j, j < l.length → -2305843009213693952 ≤ l.getD j 0 ∧ l.getD j 0 < 2305843009213693952) : ∀ n, n ≤ l.length → inRange (foldTo l n).s := by
  intro n hn
  have := fold_s h n hn
  unfold inRange; omega

theorem refMay_any (q : Roll) : Spec Try.prog G0 8 [rollS q] [] (fun r ho => r = SV.b (mayB q) ∧ ho = []) := by
  refine start 55 0 Try.func8 rfl rfl rfl rfl ?_
  refine r1 ?_
  refine s1 1 0 1 rfl rfl rfl rfl rfl rfl trivial ?_
  refine s1 2 8 2 rfl rfl rfl rfl rfl rfl trivial ?_
  refine e1 16 rfl ?_
  refine keep [1] rfl ?_
  refine W_seq ?_
  refine r1 ?_
  refine s1 5 16 1 rfl rfl rfl rfl rfl rfl trivial ?_
  refine s1 6 24 2 rfl rfl rfl rfl rfl rfl (by first | trivial | omega | (simp only [List.length_map, List.length_append, List.length_cons, List.length_nil] at *; omega)) ?_
  refine s1 7 32 3 rfl rfl rfl rfl rfl rfl (by first | trivial | omega | (simp only [List.length_map, List.length_append, List.length_cons, List.length_nil] at *; omega)) ?_
  refine e1 40 rfl ?_
  refine keep [1, 7] rfl ?_
  refine q1 rfl (fun hc1 => ?_) (fun hc1 => ?_)
  · skip
    try simp only [decide_eq_true_eq, decide_eq_false_iff_not, Bool.not_eq_true', Bool.not_eq_false', beq_iff_eq, bne_iff_ne, beq_eq_false_iff_ne, Bool.and_eq_true, Bool.or_eq_true, Bool.and_eq_false_iff, Bool.or_eq_false_iff, ge_iff_le, gt_iff_lt, Int.not_lt, Int.not_le, ne_eq, Decidable.not_not, bne_eq_false_iff_eq] at hc1
    refine r1 ?_
    refine s1 8 40 1 rfl rfl rfl rfl rfl rfl trivial ?_
    refine s1 9 48 2 rfl rfl rfl rfl rfl rfl (by first | trivial | omega | (simp only [List.length_map, List.length_append, List.length_cons, List.length_nil] at *; omega)) ?_
    refine s1 10 56 3 rfl rfl rfl rfl rfl rfl (by first | trivial | omega | (simp only [List.length_map, List.length_append, List.length_cons, List.length_nil] at *; omega)) ?_
    refine s1 11 64 4 rfl rfl rfl rfl rfl rfl trivial ?_
    refine ask 11 rfl (fun hg2_11 => ?_) (fun hg2_11 => ?_)
    · skip
      try simp only [decide_eq_true_eq, decide_eq_false_iff_not, Bool.not_eq_true', Bool.not_eq_false', beq_iff_eq, bne_iff_ne, beq_eq_false_iff_ne, Bool.and_eq_true, Bool.or_eq_true, Bool.and_eq_false_iff, Bool.or_eq_false_iff, ge_iff_le, gt_iff_lt, Int.not_lt, Int.not_le, ne_eq, Decidable.not_not, bne_eq_false_iff_eq] at hg2_11
      refine g1 3 true 11 12 5 rfl rfl rfl rfl rfl ?_
      refine s1 12 72 5 rfl rfl rfl rfl rfl rfl trivial ?_
      refine g1 3 true 11 13 6 rfl rfl rfl rfl rfl ?_
      refine s1 13 80 6 rfl rfl rfl rfl rfl rfl (by first | trivial | omega | (simp only [List.length_map, List.length_append, List.length_cons, List.length_nil] at *; omega)) ?_
      refine g1 3 true 11 14 7 rfl rfl rfl rfl rfl ?_
      refine s1 14 88 7 rfl rfl rfl rfl rfl rfl (by first | trivial | omega | (simp only [List.length_map, List.length_append, List.length_cons, List.length_nil] at *; omega)) ?_
      refine s1 15 96 8 rfl rfl rfl rfl rfl rfl trivial ?_
      refine s1 16 104 9 rfl rfl rfl rfl rfl rfl trivial ?_
      refine ask 16 rfl (fun hg2_16 => ?_) (fun hg2_16 => ?_)
      · skip
        try simp only [decide_eq_true_eq, decide_eq_false_iff_not, Bool.not_eq_true', Bool.not_eq_false', beq_iff_eq, bne_iff_ne, beq_eq_false_iff_ne, Bool.and_eq_true, Bool.or_eq_true, Bool.and_eq_false_iff, Bool.or_eq_false_iff, ge_iff_le, gt_iff_lt, Int.not_lt, Int.not_le, ne_eq, Decidable.not_not, bne_eq_false_iff_eq] at hg2_16
        refine g1 8 true 16 17 10 rfl rfl rfl rfl rfl ?_
        refine s1 17 112 10 rfl rfl rfl rfl rfl rfl trivial ?_
        refine g1 8 true 16 18 11 rfl rfl rfl rfl rfl ?_
        refine s1 18 120 11 rfl rfl rfl rfl rfl rfl (by first | trivial | omega | (simp only [List.length_map, List.length_append, List.length_cons, List.length_nil] at *; omega)) ?_
        refine g1 8 true 16 19 12 rfl rfl rfl rfl rfl ?_
        refine s1 19 128 12 rfl rfl rfl rfl rfl rfl (by first | trivial | omega | (simp only [List.length_map, List.length_append, List.length_cons, List.length_nil] at *; omega)) ?_
        refine s1 20 136 13 rfl rfl rfl rfl rfl rfl trivial ?_
        refine s1 2 144 14 rfl rfl rfl rfl rfl rfl trivial ?_
        refine e1 152 rfl ?_
        refine keep [2] rfl ?_
        refine W_ret ?_
        refine tr ?_
        exact out1 2 (SV.b (mayB q)) (π := []) (hout := []) Try.results8 rfl (by show SV.b _ = SV.b _; refine congrArg SV.b (Bool.eq_iff_iff.2 ?_); simp [mayB] at *; omega) rfl rfl trivial ⟨rfl, rfl⟩
      · skip
        try simp only [decide_eq_true_eq, decide_eq_false_iff_not, Bool.not_eq_true', Bool.not_eq_false', beq_iff_eq, bne_iff_ne, beq_eq_false_iff_ne, Bool.and_eq_true, Bool.or_eq_true, Bool.and_eq_false_iff, Bool.or_eq_false_iff, ge_iff_le, gt_iff_lt, Int.not_lt, Int.not_le, ne_eq, Decidable.not_not, bne_eq_false_iff_eq] at hg2_16
        refine g0 8 true 16 17 10 rfl rfl rfl rfl rfl rfl ?_
        refine g0 8 true 16 18 11 rfl rfl rfl rfl rfl rfl ?_
        refine g0 8 true 16 19 12 rfl rfl rfl rfl rfl rfl ?_
        refine s1 20 136 13 rfl rfl rfl rfl rfl rfl trivial ?_
        refine s1 2 144 14 rfl rfl rfl rfl rfl rfl trivial ?_
        refine e1 152 rfl ?_
        refine keep [2] rfl ?_
        refine W_ret ?_
        refine tr ?_
        exact out1 2 (SV.b (mayB q)) (π := []) (hout := []) Try.results8 rfl (by show SV.b _ = SV.b _; refine congrArg SV.b (Bool.eq_iff_iff.2 ?_); simp [mayB] at *; omega) rfl rfl trivial ⟨rfl, rfl⟩
    · skip
      try simp only [decide_eq_true_eq, decide_eq_false_iff_not, Bool.not_eq_true', Bool.not_eq_false', beq_iff_eq, bne_iff_ne, beq_eq_false_iff_ne, Bool.and_eq_true, Bool.or_eq_true, Bool.and_eq_false_iff, Bool.or_eq_false_iff, ge_iff_le, gt_iff_lt, Int.not_lt, Int.not_le, ne_eq, Decidable.not_not, bne_eq_false_iff_eq] at hg2_11
      refine g0 3 true 11 12 5 rfl rfl rfl rfl rfl rfl ?_
      refine g0 3 true 11 13 6 rfl rfl rfl rfl rfl rfl ?_
      refine g0 3 true 11 14 7 rfl rfl rfl rfl rfl rfl ?_
      refine s1 15 96 8 rfl rfl rfl rfl rfl rfl trivial ?_
      refine s1 16 104 9 rfl rfl rfl rfl rfl rfl trivial ?_
      refine g0 8 true 16 17 10 rfl rfl rfl rfl rfl rfl ?_
      refine g0 8 true 16 18 11 rfl rfl rfl rfl rfl rfl ?_
      refine g0 8 true 16 19 12 rfl rfl rfl rfl rfl rfl ?_
      refine s1 20 136 13 rfl rfl rfl rfl rfl rfl trivial ?_
      refine s1 2 144 14 rfl rfl rfl rfl rfl rfl trivial ?_
      refine e1 152 rfl ?_
      refine keep [2] rfl ?_
      refine W_ret ?_
      refine tr ?_
      exact out1 2 (SV.b (mayB q)) (π := []) (hout := []) Try.results8 rfl (by show SV.b _ = SV.b _; refine congrArg SV.b (Bool.eq_iff_iff.2 ?_); simp [mayB] at *; omega) rfl rfl trivial ⟨rfl, rfl⟩
  · skip
    try simp only [decide_eq_true_eq, decide_eq_false_iff_not, Bool.not_eq_true', Bool.not_eq_false', beq_iff_eq, bne_iff_ne, beq_eq_false_iff_ne, Bool.and_eq_true, Bool.or_eq_true, Bool.and_eq_false_iff, Bool.or_eq_false_iff, ge_iff_le, gt_iff_lt, Int.not_lt, Int.not_le, ne_eq, Decidable.not_not, bne_eq_false_iff_eq] at hc1
    refine W_skip ?_
    refine tn ?_
    refine W_seq ?_
    refine r1 ?_
    refine s1 21 40 1 rfl rfl rfl rfl rfl rfl trivial ?_
    refine s1 22 48 2 rfl rfl rfl rfl rfl rfl (by first | trivial | omega | (simp only [List.length_map, List.length_append, List.length_cons, List.length_nil] at *; omega)) ?_
    refine s1 23 56 3 rfl rfl rfl rfl rfl rfl (by first | trivial | omega | (simp only [List.length_map, List.length_append, List.length_cons, List.length_nil] at *; omega)) ?_
    refine s1 24 64 4 rfl rfl rfl rfl rfl rfl trivial ?_
    refine ask 24 rfl (fun hg3_24 => ?_) (fun hg3_24 => ?_)
    · skip
      try simp only [decide_eq_true_eq, decide_eq_false_iff_not, Bool.not_eq_true', Bool.not_eq_false', beq_iff_eq, bne_iff_ne, beq_eq_false_iff_ne, Bool.and_eq_true, Bool.or_eq_true, Bool.and_eq_false_iff, Bool.or_eq_false_iff, ge_iff_le, gt_iff_lt, Int.not_lt, Int.not_le, ne_eq, Decidable.not_not, bne_eq_false_iff_eq] at hg3_24
      refine g0 3 false 24 25 5 rfl rfl rfl rfl rfl rfl ?_
      refine g0 3 false 24 26 6 rfl rfl rfl rfl rfl rfl ?_
      refine g0 3 false 24 27 7 rfl rfl rfl rfl rfl rfl ?_
      refine s1 28 96 8 rfl rfl rfl rfl rfl rfl trivial ?_
      refine s1 29 104 9 rfl rfl rfl rfl rfl rfl trivial ?_
      refine g0 8 false 29 30 10 rfl rfl rfl rfl rfl rfl ?_
      refine g0 8 false 29 31 11 rfl rfl rfl rfl rfl rfl ?_
      refine g0 8 false 29 32 12 rfl rfl rfl rfl rfl rfl ?_
      refine g0 8 false 29 33 13 rfl rfl rfl rfl rfl rfl ?_
      refine g0 8 false 29 34 14 rfl rfl rfl rfl rfl rfl ?_
      refine s1 35 152 15 rfl rfl rfl rfl rfl rfl trivial ?_
      refine e1 160 rfl ?_
      refine keep [1, 35] rfl ?_
      refine q1 rfl (fun hc3 => ?_) (fun hc3 => ?_)
      · skip
        try simp only [decide_eq_true_eq, decide_eq_false_iff_not, Bool.not_eq_true', Bool.not_eq_false', beq_iff_eq, bne_iff_ne, beq_eq_false_iff_ne, Bool.and_eq_true, Bool.or_eq_true, Bool.and_eq_false_iff, Bool.or_eq_false_iff, ge_iff_le, gt_iff_lt, Int.not_lt, Int.not_le, ne_eq, Decidable.not_not, bne_eq_false_iff_eq] at hc3
        refine r1 ?_
        refine s1 2 160 1 rfl rfl rfl rfl rfl rfl trivial ?_
        refine e1 168 rfl ?_
        refine keep [2] rfl ?_
        refine W_ret ?_
        refine tr ?_
        exact out1 2 (SV.b (mayB q)) (π := []) (hout := []) Try.results8 rfl (by show SV.b _ = SV.b _; refine congrArg SV.b (Bool.eq_iff_iff.2 ?_); simp [mayB] at *; omega) rfl rfl trivial ⟨rfl, rfl⟩
      · skip
        exact absurd hc3 (by decide)
    · skip
      try simp only [decide_eq_true_eq, decide_eq_false_iff_not, Bool.not_eq_true', Bool.not_eq_false', beq_iff_eq, bne_iff_ne, beq_eq_false_iff_ne, Bool.and_eq_true, Bool.or_eq_true, Bool.and_eq_false_iff, Bool.or_eq_false_iff, ge_iff_le, gt_iff_lt, Int.not_lt, Int.not_le, ne_eq, Decidable.not_not, bne_eq_false_iff_eq] at hg3_24
      refine g1 3 false 24 25 5 rfl rfl rfl rfl rfl ?_
      refine s1 25 72 5 rfl rfl rfl rfl rfl rfl trivial ?_
      refine g1 3 false 24 26 6 rfl rfl rfl rfl rfl ?_
      refine s1 26 80 6 rfl rfl rfl rfl rfl rfl (by first | trivial | omega | (simp only [List.length_map, List.length_append, List.length_cons, List.length_nil] at *; omega)) ?_
      refine g1 3 false 24 27 7 rfl rfl rfl rfl rfl ?_
      refine s1 27 88 7 rfl rfl rfl rfl rfl rfl (by first | trivial | omega | (simp only [List.length_map, List.length_append, List.length_cons, List.length_nil] at *; omega)) ?_
      refine s1 28 96 8 rfl rfl rfl rfl rfl rfl trivial ?_
      refine s1 29 104 9 rfl rfl rfl rfl rfl rfl trivial ?_
      refine ask 29 rfl (fun hg3_29 => ?_) (fun hg3_29 => ?_)
      · skip
        try simp only [decide_eq_true_eq, decide_eq_false_iff_not, Bool.not_eq_true', Bool.not_eq_false', beq_iff_eq, bne_iff_ne, beq_eq_false_iff_ne, Bool.and_eq_true, Bool.or_eq_true, Bool.and_eq_false_iff, Bool.or_eq_false_iff, ge_iff_le, gt_iff_lt, Int.not_lt, Int.not_le, ne_eq, Decidable.not_not, bne_eq_false_iff_eq] at hg3_29
        refine g0 8 false 29 30 10 rfl rfl rfl rfl rfl rfl ?_
        refine g0 8 false 29 31 11 rfl rfl rfl rfl rfl rfl ?_
        refine g0 8 false 29 32 12 rfl rfl rfl rfl rfl rfl ?_
        refine g0 8 false 29 33 13 rfl rfl rfl rfl rfl rfl ?_
        refine g0 8 false 29 34 14 rfl rfl rfl rfl rfl rfl ?_
        refine s1 35 152 15 rfl rfl rfl rfl rfl rfl trivial ?_
        refine e1 160 rfl ?_
        refine keep [1, 35] rfl ?_
        refine q1 rfl (fun hc3 => ?_) (fun hc3 => ?_)
        · skip
          try simp only [decide_eq_true_eq, decide_eq_false_iff_not, Bool.not_eq_true', Bool.not_eq_false', beq_iff_eq, bne_iff_ne, beq_eq_false_iff_ne, Bool.and_eq_true, Bool.or_eq_true, Bool.and_eq_false_iff, Bool.or_eq_false_iff, ge_iff_le, gt_iff_lt, Int.not_lt, Int.not_le, ne_eq, Decidable.not_not, bne_eq_false_iff_eq] at hc3
          refine r1 ?_
          refine s1 2 160 1 rfl rfl rfl rfl rfl rfl trivial ?_
          refine e1 168 rfl ?_
          refine keep [2] rfl ?_
          refine W_ret ?_
          refine tr ?_
          exact out1 2 (SV.b (mayB q)) (π := []) (hout := []) Try.results8 rfl (by show SV.b _ = SV.b _; refine congrArg SV.b (Bool.eq_iff_iff.2 ?_); simp [mayB] at *; omega) rfl rfl trivial ⟨rfl, rfl⟩
        · skip
          exact absurd hc3 (by decide)
      · skip
        try simp only [decide_eq_true_eq, decide_eq_false_iff_not, Bool.not_eq_true', Bool.not_eq_false', beq_iff_eq, bne_iff_ne, beq_eq_false_iff_ne, Bool.and_eq_true, Bool.or_eq_true, Bool.and_eq_false_iff, Bool.or_eq_false_iff, ge_iff_le, gt_iff_lt, Int.not_lt, Int.not_le, ne_eq, Decidable.not_not, bne_eq_false_iff_eq] at hg3_29
        refine g1 8 false 29 30 10 rfl rfl rfl rfl rfl ?_
        refine s1 30 112 10 rfl rfl rfl rfl rfl rfl trivial ?_
        refine g1 8 false 29 31 11 rfl rfl rfl rfl rfl ?_
        refine s1 31 120 11 rfl rfl rfl rfl rfl rfl (by first | trivial | omega | (simp only [List.length_map, List.length_append, List.length_cons, List.length_nil] at *; omega)) ?_
        refine g1 8 false 29 32 12 rfl rfl rfl rfl rfl ?_
        refine s1 32 128 12 rfl rfl rfl rfl rfl rfl trivial ?_
        refine g1 8 false 29 33 13 rfl rfl rfl rfl rfl ?_
        refine s1 33 136 13 rfl rfl rfl rfl rfl rfl (by first | trivial | omega | (simp only [List.length_map, List.length_append, List.length_cons, List.length_nil] at *; omega)) ?_
        refine g1 8 false 29 34 14 rfl rfl rfl rfl rfl ?_
        refine s1 34 144 14 rfl rfl rfl rfl rfl rfl (by first | trivial | omega | (simp only [List.length_map, List.length_append, List.length_cons, List.length_nil] at *; omega)) ?_
        refine s1 35 152 15 rfl rfl rfl rfl rfl rfl trivial ?_
        refine e1 160 rfl ?_
        refine keep [1, 35] rfl ?_
        refine q1 rfl (fun hc3 => ?_) (fun hc3 => ?_)
        · skip
          try simp only [decide_eq_true_eq, decide_eq_false_iff_not, Bool.not_eq_true', Bool.not_eq_false', beq_iff_eq, bne_iff_ne, beq_eq_false_iff_ne, Bool.and_eq_true, Bool.or_eq_true, Bool.and_eq_false_iff, Bool.or_eq_false_iff, ge_iff_le, gt_iff_lt, Int.not_lt, Int.not_le, ne_eq, Decidable.not_not, bne_eq_false_iff_eq] at hc3
          refine r1 ?_
          refine s1 2 160 1 rfl rfl rfl rfl rfl rfl trivial ?_
          refine e1 168 rfl ?_
          refine keep [2] rfl ?_
          refine W_ret ?_
          refine tr ?_
          exact out1 2 (SV.b (mayB q)) (π := []) (hout := []) Try.results8 rfl (by show SV.b _ = SV.b _; refine congrArg SV.b (Bool.eq_iff_iff.2 ?_); simp [mayB] at *; omega) rfl rfl trivial ⟨rfl, rfl⟩
        · skip
          try simp only [decide_eq_true_eq, decide_eq_false_iff_not, Bool.not_eq_true', Bool.not_eq_false', beq_iff_eq, bne_iff_ne, beq_eq_false_iff_ne, Bool.and_eq_true, Bool.or_eq_true, Bool.and_eq_false_iff, Bool.or_eq_false_iff, ge_iff_le, gt_iff_lt, Int.not_lt, Int.not_le, ne_eq, Decidable.not_not, bne_eq_false_iff_eq] at hc3
          refine W_skip ?_
          refine tn ?_
          refine W_seq ?_
          refine r1 ?_
          refine s1 36 160 1 rfl rfl rfl rfl rfl rfl trivial ?_
          refine s1 37 168 2 rfl rfl rfl rfl rfl rfl (by first | trivial | omega | (simp only [List.length_map, List.length_append, List.length_cons, List.length_nil] at *; omega)) ?_
          refine s1 38 176 3 rfl rfl rfl rfl rfl rfl trivial ?_
          refine s1 39 184 4 rfl rfl rfl rfl rfl rfl (by first | trivial | omega | (simp only [List.length_map, List.length_append, List.length_cons, List.length_nil] at *; omega)) ?_
          refine s1 40 192 5 rfl rfl rfl rfl rfl rfl trivial ?_
          refine s1 41 200 6 rfl rfl rfl rfl rfl rfl (by first | trivial | omega | (simp only [List.length_map, List.length_append, List.length_cons, List.length_nil] at *; omega)) ?_
          refine s1 42 208 7 rfl rfl rfl rfl rfl rfl trivial ?_
          refine s1 43 216 8 rfl rfl rfl rfl rfl rfl (by first | trivial | omega | (simp only [List.length_map, List.length_append, List.length_cons, List.length_nil] at *; omega)) ?_
          refine s1 44 224 9 rfl rfl rfl rfl rfl rfl trivial ?_
          refine e1 232 rfl ?_
          refine keep [42, 43, 44] rfl ?_
          refine torows 208 3 (tri q.lo q.hi q.s) rfl (by decide) (Nat.le_refl _) (fun i c hi hc => by have hc1 : c < 1 := hc; obtain rfl : c = 0 := (by omega); match i, hi with | 0, _ => rfl | 1, _ => rfl | 2, _ => rfl) ?_
          refine freeze 42 208 3 rfl rfl (Nat.le_refl _) ?_
          refine W_block ?_
          refine loop (α := Nat) 0 (fun n => [(42, .d (.vec 1 3 (tri q.lo q.hi q.s))), (43, SV.i 3), (44, SV.i n)]) (fun n => []) (fun n => n ≤ 3 ∧ ∀ j, j < n → inB (at3 q.lo q.hi q.s j) = true) (fun n => 3 - n) (0) [] (fun _ => rfl) ⟨Nat.zero_le _, fun j hj => by omega⟩ rfl ⟨rfl, rfl, rfl, trivial⟩ trivial (fun n hx => ?_)
          obtain ⟨hn, hno⟩ := hx
          refine r1 ?_
          refine s1 45 0 1 rfl rfl rfl rfl rfl rfl (by first | trivial | omega | (simp only [List.length_map, List.length_append, List.length_cons, List.length_nil] at *; omega)) ?_
          refine e1 8 rfl ?_
          refine keep [42, 43, 44, 45] rfl ?_
          refine W_seq ?_
          refine q1 rfl (fun hc6 => ?_) (fun hc6 => ?_)
          · skip
            try simp only [decide_eq_true_eq, decide_eq_false_iff_not, Bool.not_eq_true', Bool.not_eq_false', beq_iff_eq, bne_iff_ne, beq_eq_false_iff_ne, Bool.and_eq_true, Bool.or_eq_true, Bool.and_eq_false_iff, Bool.or_eq_false_iff, ge_iff_le, gt_iff_lt, Int.not_lt, Int.not_le, ne_eq, Decidable.not_not, bne_eq_false_iff_eq] at hc6
            refine W_skip ?_
            refine tn ?_
            refine W_seq ?_
            refine W_block ?_
            refine r1 ?_
            refine s1 46 8 1 rfl rfl rfl rfl rfl rfl (by omega) ?_
            refine s1 47 16 2 rfl rfl rfl rfl rfl rfl (by omega) ?_
            refine s1 4 24 3 rfl rfl rfl rfl rfl rfl trivial ?_
            refine e1 32 rfl ?_
            refine keep [4, 42, 43, 44] rfl ?_
            refine r1 ?_
            refine s1 48 32 1 rfl rfl rfl rfl rfl rfl trivial ?_
            refine s1 49 40 2 rfl rfl rfl rfl rfl rfl (by first | trivial | omega | (simp only [List.length_map, List.length_append, List.length_cons, List.length_nil] at *; omega)) ?_
            refine s1 50 48 3 rfl rfl rfl rfl rfl rfl trivial ?_
            refine ask 50 rfl (fun hg8_50 => ?_) (fun hg8_50 => ?_)
            · skip
              try simp only [decide_eq_true_eq, decide_eq_false_iff_not, Bool.not_eq_true', Bool.not_eq_false', beq_iff_eq, bne_iff_ne, beq_eq_false_iff_ne, Bool.and_eq_true, Bool.or_eq_true, Bool.and_eq_false_iff, Bool.or_eq_false_iff, ge_iff_le, gt_iff_lt, Int.not_lt, Int.not_le, ne_eq, Decidable.not_not, bne_eq_false_iff_eq] at hg8_50
              refine g0 2 false 50 51 4 rfl rfl rfl rfl rfl rfl ?_
              refine g0 2 false 50 52 5 rfl rfl rfl rfl rfl rfl ?_
              refine s1 53 72 6 rfl rfl rfl rfl rfl rfl trivial ?_
              refine e1 80 rfl ?_
              refine keep [42, 43, 44, 53] rfl ?_
              refine q1 rfl (fun hc8 => ?_) (fun hc8 => ?_)
              · skip
                try simp only [decide_eq_true_eq, decide_eq_false_iff_not, Bool.not_eq_true', Bool.not_eq_false', beq_iff_eq, bne_iff_ne, beq_eq_false_iff_ne, Bool.and_eq_true, Bool.or_eq_true, Bool.and_eq_false_iff, Bool.or_eq_false_iff, ge_iff_le, gt_iff_lt, Int.not_lt, Int.not_le, ne_eq, Decidable.not_not, bne_eq_false_iff_eq] at hc8
                refine r1 ?_
                refine s1 2 80 1 rfl rfl rfl rfl rfl rfl trivial ?_
                refine e1 88 rfl ?_
                refine keep [2] rfl ?_
                refine W_ret ?_
                refine br ?_
                refine tr ?_
                refine tr ?_
                refine br ?_
                refine tr ?_
                exact out1 2 (SV.b (mayB q)) (π := []) (hout := []) Try.results8 rfl (by have h0 := not3 (a := q.lo) (b := q.hi) (d := q.s) (n := n) (by omega) (by simp only [Int.toNat_natCast] at *; simp [inB]; omega); show SV.b _ = SV.b _; refine congrArg SV.b ?_; unfold mayB; rw [h0]; simp; omega) rfl rfl trivial ⟨rfl, rfl⟩
              · skip
                exact absurd hc8 (by decide)
            · skip
              try simp only [decide_eq_true_eq, decide_eq_false_iff_not, Bool.not_eq_true', Bool.not_eq_false', beq_iff_eq, bne_iff_ne, beq_eq_false_iff_ne, Bool.and_eq_true, Bool.or_eq_true, Bool.and_eq_false_iff, Bool.or_eq_false_iff, ge_iff_le, gt_iff_lt, Int.not_lt, Int.not_le, ne_eq, Decidable.not_not, bne_eq_false_iff_eq] at hg8_50
              refine g1 2 false 50 51 4 rfl rfl rfl rfl rfl ?_
              refine s1 51 56 4 rfl rfl rfl rfl rfl rfl trivial ?_
              refine g1 2 false 50 52 5 rfl rfl rfl rfl rfl ?_
              refine s1 52 64 5 rfl rfl rfl rfl rfl rfl (by first | trivial | omega | (simp only [List.length_map, List.length_append, List.length_cons, List.length_nil] at *; omega)) ?_
              refine s1 53 72 6 rfl rfl rfl rfl rfl rfl trivial ?_
              refine e1 80 rfl ?_
              refine keep [42, 43, 44, 53] rfl ?_
              refine q1 rfl (fun hc8 => ?_) (fun hc8 => ?_)
              · skip
                try simp only [decide_eq_true_eq, decide_eq_false_iff_not, Bool.not_eq_true', Bool.not_eq_false', beq_iff_eq, bne_iff_ne, beq_eq_false_iff_ne, Bool.and_eq_true, Bool.or_eq_true, Bool.and_eq_false_iff, Bool.or_eq_false_iff, ge_iff_le, gt_iff_lt, Int.not_lt, Int.not_le, ne_eq, Decidable.not_not, bne_eq_false_iff_eq] at hc8
                refine r1 ?_
                refine s1 2 80 1 rfl rfl rfl rfl rfl rfl trivial ?_
                refine e1 88 rfl ?_
                refine keep [2] rfl ?_
                refine W_ret ?_
                refine br ?_
                refine tr ?_
                refine tr ?_
                refine br ?_
                refine tr ?_
                exact out1 2 (SV.b (mayB q)) (π := []) (hout := []) Try.results8 rfl (by have h0 := not3 (a := q.lo) (b := q.hi) (d := q.s) (n := n) (by omega) (by simp only [Int.toNat_natCast] at *; simp [inB]; omega); show SV.b _ = SV.b _; refine congrArg SV.b ?_; unfold mayB; rw [h0]; simp; omega) rfl rfl trivial ⟨rfl, rfl⟩
              · skip
                try simp only [decide_eq_true_eq, decide_eq_false_iff_not, Bool.not_eq_true', Bool.not_eq_false', beq_iff_eq, bne_iff_ne, beq_eq_false_iff_ne, Bool.and_eq_true, Bool.or_eq_true, Bool.and_eq_false_iff, Bool.or_eq_false_iff, ge_iff_le, gt_iff_lt, Int.not_lt, Int.not_le, ne_eq, Decidable.not_not, bne_eq_false_iff_eq] at hc8
                refine W_skip ?_
                refine bn ?_
                refine tn ?_
                refine r0 ?_
                refine sA 54 80 1 rfl rfl rfl rfl rfl rfl rfl rfl rfl (by unfold inRange; omega) ?_
                refine s1 44 88 2 rfl rfl rfl rfl rfl rfl trivial ?_
                refine e1 96 rfl ?_
                refine tn ?_
                exact again (n + 1) [] ⟨by omega, fun j hj => by by_cases e : j = n; (subst e; clear hno; simp only [Int.toNat_natCast] at *; simp [inB]; omega); exact hno j (by omega)⟩ (by omega) rfl ⟨rfl, rfl, rfl, trivial⟩ trivial
          · skip
            try simp only [decide_eq_true_eq, decide_eq_false_iff_not, Bool.not_eq_true', Bool.not_eq_false', beq_iff_eq, bne_iff_ne, beq_eq_false_iff_ne, Bool.and_eq_true, Bool.or_eq_true, Bool.and_eq_false_iff, Bool.or_eq_false_iff, ge_iff_le, gt_iff_lt, Int.not_lt, Int.not_le, ne_eq, Decidable.not_not, bne_eq_false_iff_eq] at hc6
            refine W_exit ?_
            refine tx ?_
            refine tx ?_
            refine bx ?_
            refine tn ?_
            refine r1 ?_
            refine s1 2 8 1 rfl rfl rfl rfl rfl rfl trivial ?_
            refine e1 16 rfl ?_
            refine keep [2] rfl ?_
            refine W_ret ?_
            exact out1 2 (SV.b (mayB q)) (π := []) (hout := []) Try.results8 rfl (by obtain ⟨h1, h2, h3⟩ := all3 (fun j hj => hno j (by omega)); show SV.b _ = SV.b _; refine congrArg SV.b ?_; unfold mayB; rw [h1, h2, h3]; simp; omega) rfl rfl trivial ⟨rfl, rfl⟩

theorem rollOf_any (l : List Int) (hl : l.length ≤ 9223372036854775807) (hs : ∀ n, n ≤ l.length → inRange (foldTo l n).s) : Spec Try.prog G0 9 [intsV l] [] (fun r ho => r = rollS (foldTo l l.length) ∧ ho = []) := by
  refine start 44 0 Try.func9 rfl rfl rfl rfl ?_
  refine r1 ?_
  refine s1 2 0 1 rfl rfl rfl rfl rfl rfl trivial ?_
  refine e1 8 rfl ?_
  refine keep [0, 2] rfl ?_
  refine r1 ?_
  refine s1 3 8 1 rfl rfl rfl rfl rfl rfl trivial ?_
  refine e1 16 rfl ?_
  refine keep [0, 2, 3] rfl ?_
  refine W_seq ?_
  refine r1 ?_
  refine s1 6 16 1 rfl rfl rfl rfl rfl rfl trivial ?_
  refine s1 7 24 2 rfl rfl rfl rfl rfl rfl (by first | trivial | omega | (simp only [List.length_map, List.length_append, List.length_cons, List.length_nil] at *; omega)) ?_
  refine s1 8 32 3 rfl rfl rfl rfl rfl rfl trivial ?_
  refine e1 40 rfl ?_
  refine keep [2, 3, 6, 7, 8] rfl ?_
  refine W_block ?_
  refine loop (α := Nat) 2 (fun n => [(2, .ptr 0 0 0), (3, .ptr 1 0 0), (6, intsV l), (7, SV.i l.length), (8, SV.i n)]) (fun n => [some (rollBlk ⟨0, 0, 0, 0⟩), some (rollBlk (foldTo l n))]) (fun n => n ≤ l.length) (fun n => l.length - n) (0) [0, 8] (fun _ => rfl) (Nat.zero_le _) rfl ⟨rfl, rfl, rfl, rfl, rfl, trivial⟩ ⟨rfl, rfl, trivial⟩ (fun n hx => ?_)
  refine r1 ?_
  refine s1 9 2 1 rfl rfl rfl rfl rfl rfl (by first | trivial | omega | (simp only [List.length_map, List.length_append, List.length_cons, List.length_nil] at *; omega)) ?_
  refine e1 10 rfl ?_
  refine keep [2, 3, 6, 7, 8, 9] rfl ?_
  refine W_seq ?_
  refine q1 rfl (fun hc3 => ?_) (fun hc3 => ?_)
  · skip
    try simp only [decide_eq_true_eq, decide_eq_false_iff_not, Bool.not_eq_true', Bool.not_eq_false', beq_iff_eq, bne_iff_ne, beq_eq_false_iff_ne, Bool.and_eq_true, Bool.or_eq_true, Bool.and_eq_false_iff, Bool.or_eq_false_iff, ge_iff_le, gt_iff_lt, Int.not_lt, Int.not_le, ne_eq, Decidable.not_not, bne_eq_false_iff_eq] at hc3
    refine W_skip ?_
    refine tn ?_
    refine W_seq ?_
    refine W_block ?_
    refine r1 ?_
    refine s1 10 10 1 rfl rfl rfl rfl rfl rfl trivial ?_
    refine s1 11 18 2 rfl rfl rfl rfl rfl rfl (by first | trivial | omega | (simp only [List.length_map, List.length_append, List.length_cons, List.length_nil] at *; omega)) ?_
    refine s1 12 26 3 rfl rfl rfl rfl rfl rfl (by first | trivial | omega | (simp only [List.length_map, List.length_append, List.length_cons, List.length_nil] at *; omega)) ?_
    refine s1 4 34 4 rfl rfl rfl rfl rfl rfl trivial ?_
    refine s1 5 42 5 rfl rfl rfl rfl rfl rfl trivial ?_
    refine e1 50 rfl ?_
    refine keep [2, 3, 4, 5, 6, 7, 8] rfl ?_
    refine W_seq ?_
    refine r1 ?_
    refine s1 13 50 1 rfl rfl rfl rfl rfl rfl trivial ?_
    refine s1 14 58 2 rfl rfl rfl rfl rfl rfl (by first | trivial | omega | (simp only [List.length_map, List.length_append, List.length_cons, List.length_nil] at *; omega)) ?_
    refine s1 15 66 3 rfl rfl rfl rfl rfl rfl trivial ?_
    refine ask 15 rfl (fun hg5_15 => ?_) (fun hg5_15 => ?_)
    · skip
      try simp only [decide_eq_true_eq, decide_eq_false_iff_not, Bool.not_eq_true', Bool.not_eq_false', beq_iff_eq, bne_iff_ne, beq_eq_false_iff_ne, Bool.and_eq_true, Bool.or_eq_true, Bool.and_eq_false_iff, Bool.or_eq_false_iff, ge_iff_le, gt_iff_lt, Int.not_lt, Int.not_le, ne_eq, Decidable.not_not, bne_eq_false_iff_eq] at hg5_15
      refine g0 2 false 15 16 4 rfl rfl rfl rfl rfl rfl ?_
      refine g0 2 false 15 17 5 rfl rfl rfl rfl rfl rfl ?_
      refine g0 2 false 15 18 6 rfl rfl rfl rfl rfl rfl ?_
      refine g0 2 false 15 19 7 rfl rfl rfl rfl rfl rfl ?_
      refine s1 20 106 8 rfl rfl rfl rfl rfl rfl trivial ?_
      refine e1 114 rfl ?_
      refine keep [2, 3, 4, 5, 6, 7, 8, 20] rfl ?_
      refine q1 rfl (fun hc5 => ?_) (fun hc5 => ?_)
      · skip
        try simp only [decide_eq_true_eq, decide_eq_false_iff_not, Bool.not_eq_true', Bool.not_eq_false', beq_iff_eq, bne_iff_ne, beq_eq_false_iff_ne, Bool.and_eq_true, Bool.or_eq_true, Bool.and_eq_false_iff, Bool.or_eq_false_iff, ge_iff_le, gt_iff_lt, Int.not_lt, Int.not_le, ne_eq, Decidable.not_not, bne_eq_false_iff_eq] at hc5
        refine r0 ?_
        refine s1 21 114 1 rfl rfl rfl rfl rfl rfl trivial ?_
        refine s1 22 122 2 rfl rfl rfl rfl rfl rfl trivial ?_
        refine s0 130 3 rfl rfl rfl rfl rfl (by first | trivial | omega | (simp only [List.length_map, List.length_append, List.length_cons, List.length_nil] at *; omega)) ?_
        refine e1 138 rfl ?_
        refine tn ?_
        refine W_seq ?_
        refine r1 ?_
        refine s1 23 138 1 rfl rfl rfl rfl rfl rfl trivial ?_
        refine s1 24 146 2 rfl rfl rfl rfl rfl rfl (by first | trivial | omega | (simp only [List.length_map, List.length_append, List.length_cons, List.length_nil] at *; omega)) ?_
        refine s1 25 154 3 rfl rfl rfl rfl rfl rfl trivial ?_
        refine ask 25 rfl (fun hg7_25 => ?_) (fun hg7_25 => ?_)
        · skip
          try simp only [decide_eq_true_eq, decide_eq_false_iff_not, Bool.not_eq_true', Bool.not_eq_false', beq_iff_eq, bne_iff_ne, beq_eq_false_iff_ne, Bool.and_eq_true, Bool.or_eq_true, Bool.and_eq_false_iff, Bool.or_eq_false_iff, ge_iff_le, gt_iff_lt, Int.not_lt, Int.not_le, ne_eq, Decidable.not_not, bne_eq_false_iff_eq] at hg7_25
          refine g0 2 false 25 26 4 rfl rfl rfl rfl rfl rfl ?_
          refine g0 2 false 25 27 5 rfl rfl rfl rfl rfl rfl ?_
          refine g0 2 false 25 28 6 rfl rfl rfl rfl rfl rfl ?_
          refine g0 2 false 25 29 7 rfl rfl rfl rfl rfl rfl ?_
          refine s1 30 194 8 rfl rfl rfl rfl rfl rfl trivial ?_
          refine e1 202 rfl ?_
          refine keep [2, 3, 5, 6, 7, 8, 30] rfl ?_
          refine q1 rfl (fun hc7 => ?_) (fun hc7 => ?_)
          · skip
            try simp only [decide_eq_true_eq, decide_eq_false_iff_not, Bool.not_eq_true', Bool.not_eq_false', beq_iff_eq, bne_iff_ne, beq_eq_false_iff_ne, Bool.and_eq_true, Bool.or_eq_true, Bool.and_eq_false_iff, Bool.or_eq_false_iff, ge_iff_le, gt_iff_lt, Int.not_lt, Int.not_le, ne_eq, Decidable.not_not, bne_eq_false_iff_eq] at hc7
            refine r0 ?_
            refine s1 31 202 1 rfl rfl rfl rfl rfl rfl trivial ?_
            refine s1 32 210 2 rfl rfl rfl rfl rfl rfl trivial ?_
            refine s0 218 3 rfl rfl rfl rfl rfl (by first | trivial | omega | (simp only [List.length_map, List.length_append, List.length_cons, List.length_nil] at *; omega)) ?_
            refine e1 226 rfl ?_
            refine tn ?_
            refine r1 ?_
            refine s1 33 226 1 rfl rfl rfl rfl rfl rfl trivial ?_
            refine s1 34 234 2 rfl rfl rfl rfl rfl rfl (by first | trivial | omega | (simp only [List.length_map, List.length_append, List.length_cons, List.length_nil] at *; omega)) ?_
            refine s1 35 242 3 rfl rfl rfl rfl rfl rfl trivial ?_
            refine sA 36 250 4 rfl rfl rfl rfl rfl rfl rfl rfl rfl (by have := hs (n + 1) (by omega); exact this) ?_
            refine s1 37 258 5 rfl rfl rfl rfl rfl rfl trivial ?_
            refine s0 266 6 rfl rfl rfl rfl rfl (by first | trivial | omega | (simp only [List.length_map, List.length_append, List.length_cons, List.length_nil] at *; omega)) ?_
            refine e1 274 rfl ?_
            refine keep [2, 3, 6, 7, 8] rfl ?_
            refine r0 ?_
            refine s1 38 274 1 rfl rfl rfl rfl rfl rfl trivial ?_
            refine s1 39 282 2 rfl rfl rfl rfl rfl rfl (by first | trivial | omega | (simp only [List.length_map, List.length_append, List.length_cons, List.length_nil] at *; omega)) ?_
            refine sA 40 290 3 rfl rfl rfl rfl rfl rfl rfl rfl rfl (by have := fold_c l n; unfold inRange; omega) ?_
            refine s1 41 298 4 rfl rfl rfl rfl rfl rfl trivial ?_
            refine s0 306 5 rfl rfl rfl rfl rfl (by first | trivial | omega | (simp only [List.length_map, List.length_append, List.length_cons, List.length_nil] at *; omega)) ?_
            refine e1 314 rfl ?_
            refine bn ?_
            refine tn ?_
            refine chval 1 (rollBlk (foldTo l (n + 1))) rfl (blk_eq rfl (by simp only [Int.toNat_natCast] at *; simp only [foldTo, stepR]; split <;> omega) (by simp only [Int.toNat_natCast] at *; simp only [foldTo, stepR]; split <;> omega) rfl) ?_
            refine r0 ?_
            refine sA 42 314 1 rfl rfl rfl rfl rfl rfl rfl rfl rfl (by unfold inRange; omega) ?_
            refine s1 8 322 2 rfl rfl rfl rfl rfl rfl trivial ?_
            refine e1 330 rfl ?_
            refine tn ?_
            exact again (n + 1) [0, 1] (by omega) (by omega) rfl ⟨rfl, rfl, rfl, rfl, rfl, trivial⟩ ⟨rfl, rfl, trivial⟩
          · skip
            exact absurd hc7 (by decide)
        · skip
          try simp only [decide_eq_true_eq, decide_eq_false_iff_not, Bool.not_eq_true', Bool.not_eq_false', beq_iff_eq, bne_iff_ne, beq_eq_false_iff_ne, Bool.and_eq_true, Bool.or_eq_true, Bool.and_eq_false_iff, Bool.or_eq_false_iff, ge_iff_le, gt_iff_lt, Int.not_lt, Int.not_le, ne_eq, Decidable.not_not, bne_eq_false_iff_eq] at hg7_25
          refine g1 2 false 25 26 4 rfl rfl rfl rfl rfl ?_
          refine s1 26 162 4 rfl rfl rfl rfl rfl rfl trivial ?_
          refine g1 2 false 25 27 5 rfl rfl rfl rfl rfl ?_
          refine s1 27 170 5 rfl rfl rfl rfl rfl rfl trivial ?_
          refine g1 2 false 25 28 6 rfl rfl rfl rfl rfl ?_
          refine s1 28 178 6 rfl rfl rfl rfl rfl rfl (by first | trivial | omega | (simp only [List.length_map, List.length_append, List.length_cons, List.length_nil] at *; omega)) ?_
          refine g1 2 false 25 29 7 rfl rfl rfl rfl rfl ?_
          refine s1 29 186 7 rfl rfl rfl rfl rfl rfl (by first | trivial | omega | (simp only [List.length_map, List.length_append, List.length_cons, List.length_nil] at *; omega)) ?_
          refine s1 30 194 8 rfl rfl rfl rfl rfl rfl trivial ?_
          refine e1 202 rfl ?_
          refine keep [2, 3, 5, 6, 7, 8, 30] rfl ?_
          refine q1 rfl (fun hc7 => ?_) (fun hc7 => ?_)
          · skip
            try simp only [decide_eq_true_eq, decide_eq_false_iff_not, Bool.not_eq_true', Bool.not_eq_false', beq_iff_eq, bne_iff_ne, beq_eq_false_iff_ne, Bool.and_eq_true, Bool.or_eq_true, Bool.and_eq_false_iff, Bool.or_eq_false_iff, ge_iff_le, gt_iff_lt, Int.not_lt, Int.not_le, ne_eq, Decidable.not_not, bne_eq_false_iff_eq] at hc7
            refine r0 ?_
            refine s1 31 202 1 rfl rfl rfl rfl rfl rfl trivial ?_
            refine s1 32 210 2 rfl rfl rfl rfl rfl rfl trivial ?_
            refine s0 218 3 rfl rfl rfl rfl rfl (by first | trivial | omega | (simp only [List.length_map, List.length_append, List.length_cons, List.length_nil] at *; omega)) ?_
            refine e1 226 rfl ?_
            refine tn ?_
            refine r1 ?_
            refine s1 33 226 1 rfl rfl rfl rfl rfl rfl trivial ?_
            refine s1 34 234 2 rfl rfl rfl rfl rfl rfl (by first | trivial | omega | (simp only [List.length_map, List.length_append, List.length_cons, List.length_nil] at *; omega)) ?_
            refine s1 35 242 3 rfl rfl rfl rfl rfl rfl trivial ?_
            refine sA 36 250 4 rfl rfl rfl rfl rfl rfl rfl rfl rfl (by have := hs (n + 1) (by omega); exact this) ?_
            refine s1 37 258 5 rfl rfl rfl rfl rfl rfl trivial ?_
            refine s0 266 6 rfl rfl rfl rfl rfl (by first | trivial | omega | (simp only [List.length_map, List.length_append, List.length_cons, List.length_nil] at *; omega)) ?_
            refine e1 274 rfl ?_
            refine keep [2, 3, 6, 7, 8] rfl ?_
            refine r0 ?_
            refine s1 38 274 1 rfl rfl rfl rfl rfl rfl trivial ?_
            refine s1 39 282 2 rfl rfl rfl rfl rfl rfl (by first | trivial | omega | (simp only [List.length_map, List.length_append, List.length_cons, List.length_nil] at *; omega)) ?_
            refine sA 40 290 3 rfl rfl rfl rfl rfl rfl rfl rfl rfl (by have := fold_c l n; unfold inRange; omega) ?_
            refine s1 41 298 4 rfl rfl rfl rfl rfl rfl trivial ?_
            refine s0 306 5 rfl rfl rfl rfl rfl (by first | trivial | omega | (simp only [List.length_map, List.length_append, List.length_cons, List.length_nil] at *; omega)) ?_
            refine e1 314 rfl ?_
            refine bn ?_
            refine tn ?_
            refine chval 1 (rollBlk (foldTo l (n + 1))) rfl (blk_eq rfl (by simp only [Int.toNat_natCast] at *; simp only [foldTo, stepR]; split <;> omega) (by simp only [Int.toNat_natCast] at *; simp only [foldTo, stepR]; split <;> omega) rfl) ?_
            refine r0 ?_
            refine sA 42 314 1 rfl rfl rfl rfl rfl rfl rfl rfl rfl (by unfold inRange; omega) ?_
            refine s1 8 322 2 rfl rfl rfl rfl rfl rfl trivial ?_
            refine e1 330 rfl ?_
            refine tn ?_
            exact again (n + 1) [0, 1] (by omega) (by omega) rfl ⟨rfl, rfl, rfl, rfl, rfl, trivial⟩ ⟨rfl, rfl, trivial⟩
          · skip
            try simp only [decide_eq_true_eq, decide_eq_false_iff_not, Bool.not_eq_true', Bool.not_eq_false', beq_iff_eq, bne_iff_ne, beq_eq_false_iff_ne, Bool.and_eq_true, Bool.or_eq_true, Bool.and_eq_false_iff, Bool.or_eq_false_iff, ge_iff_le, gt_iff_lt, Int.not_lt, Int.not_le, ne_eq, Decidable.not_not, bne_eq_false_iff_eq] at hc7
            refine W_skip ?_
            refine tn ?_
            refine r1 ?_
            refine s1 33 202 1 rfl rfl rfl rfl rfl rfl trivial ?_
            refine s1 34 210 2 rfl rfl rfl rfl rfl rfl (by first | trivial | omega | (simp only [List.length_map, List.length_append, List.length_cons, List.length_nil] at *; omega)) ?_
            refine s1 35 218 3 rfl rfl rfl rfl rfl rfl trivial ?_
            refine sA 36 226 4 rfl rfl rfl rfl rfl rfl rfl rfl rfl (by have := hs (n + 1) (by omega); exact this) ?_
            refine s1 37 234 5 rfl rfl rfl rfl rfl rfl trivial ?_
            refine s0 242 6 rfl rfl rfl rfl rfl (by first | trivial | omega | (simp only [List.length_map, List.length_append, List.length_cons, List.length_nil] at *; omega)) ?_
            refine e1 250 rfl ?_
            refine keep [2, 3, 6, 7, 8] rfl ?_
            refine r0 ?_
            refine s1 38 250 1 rfl rfl rfl rfl rfl rfl trivial ?_
            refine s1 39 258 2 rfl rfl rfl rfl rfl rfl (by first | trivial | omega | (simp only [List.length_map, List.length_append, List.length_cons, List.length_nil] at *; omega)) ?_
            refine sA 40 266 3 rfl rfl rfl rfl rfl rfl rfl rfl rfl (by have := fold_c l n; unfold inRange; omega) ?_
            refine s1 41 274 4 rfl rfl rfl rfl rfl rfl trivial ?_
            refine s0 282 5 rfl rfl rfl rfl rfl (by first | trivial | omega | (simp only [List.length_map, List.length_append, List.length_cons, List.length_nil] at *; omega)) ?_
            refine e1 290 rfl ?_
            refine bn ?_
            refine tn ?_
            refine chval 1 (rollBlk (foldTo l (n + 1))) rfl (blk_eq rfl (by simp only [Int.toNat_natCast] at *; simp only [foldTo, stepR]; split <;> omega) (by simp only [Int.toNat_natCast] at *; simp only [foldTo, stepR]; split <;> omega) rfl) ?_
            refine r0 ?_
            refine sA 42 290 1 rfl rfl rfl rfl rfl rfl rfl rfl rfl (by unfold inRange; omega) ?_
            refine s1 8 298 2 rfl rfl rfl rfl rfl rfl trivial ?_
            refine e1 306 rfl ?_
            refine tn ?_
            exact again (n + 1) [0, 1] (by omega) (by omega) rfl ⟨rfl, rfl, rfl, rfl, rfl, trivial⟩ ⟨rfl, rfl, trivial⟩
      · skip
        exact absurd hc5 (by decide)
    · skip
      try simp only [decide_eq_true_eq, decide_eq_false_iff_not, Bool.not_eq_true', Bool.not_eq_false', beq_iff_eq, bne_iff_ne, beq_eq_false_iff_ne, Bool.and_eq_true, Bool.or_eq_true, Bool.and_eq_false_iff, Bool.or_eq_false_iff, ge_iff_le, gt_iff_lt, Int.not_lt, Int.not_le, ne_eq, Decidable.not_not, bne_eq_false_iff_eq] at hg5_15
      refine g1 2 false 15 16 4 rfl rfl rfl rfl rfl ?_
      refine s1 16 74 4 rfl rfl rfl rfl rfl rfl trivial ?_
      refine g1 2 false 15 17 5 rfl rfl rfl rfl rfl ?_
      refine s1 17 82 5 rfl rfl rfl rfl rfl rfl trivial ?_
      refine g1 2 false 15 18 6 rfl rfl rfl rfl rfl ?_
      refine s1 18 90 6 rfl rfl rfl rfl rfl rfl (by first | trivial | omega | (simp only [List.length_map, List.length_append, List.length_cons, List.length_nil] at *; omega)) ?_
      refine g1 2 false 15 19 7 rfl rfl rfl rfl rfl ?_
      refine s1 19 98 7 rfl rfl rfl rfl rfl rfl (by first | trivial | omega | (simp only [List.length_map, List.length_append, List.length_cons, List.length_nil] at *; omega)) ?_
      refine s1 20 106 8 rfl rfl rfl rfl rfl rfl trivial ?_
      refine e1 114 rfl ?_
      refine keep [2, 3, 4, 5, 6, 7, 8, 20] rfl ?_
      refine q1 rfl (fun hc5 => ?_) (fun hc5 => ?_)
      · skip
        try simp only [decide_eq_true_eq, decide_eq_false_iff_not, Bool.not_eq_true', Bool.not_eq_false', beq_iff_eq, bne_iff_ne, beq_eq_false_iff_ne, Bool.and_eq_true, Bool.or_eq_true, Bool.and_eq_false_iff, Bool.or_eq_false_iff, ge_iff_le, gt_iff_lt, Int.not_lt, Int.not_le, ne_eq, Decidable.not_not, bne_eq_false_iff_eq] at hc5
        refine r0 ?_
        refine s1 21 114 1 rfl rfl rfl rfl rfl rfl trivial ?_
        refine s1 22 122 2 rfl rfl rfl rfl rfl rfl trivial ?_
        refine s0 130 3 rfl rfl rfl rfl rfl (by first | trivial | omega | (simp only [List.length_map, List.length_append, List.length_cons, List.length_nil] at *; omega)) ?_
        refine e1 138 rfl ?_
        refine tn ?_
        refine W_seq ?_
        refine r1 ?_
        refine s1 23 138 1 rfl rfl rfl rfl rfl rfl trivial ?_
        refine s1 24 146 2 rfl rfl rfl rfl rfl rfl (by first | trivial | omega | (simp only [List.length_map, List.length_append, List.length_cons, List.length_nil] at *; omega)) ?_
        refine s1 25 154 3 rfl rfl rfl rfl rfl rfl trivial ?_
        refine ask 25 rfl (fun hg7_25 => ?_) (fun hg7_25 => ?_)
        · skip
          try simp only [decide_eq_true_eq, decide_eq_false_iff_not, Bool.not_eq_true', Bool.not_eq_false', beq_iff_eq, bne_iff_ne, beq_eq_false_iff_ne, Bool.and_eq_true, Bool.or_eq_true, Bool.and_eq_false_iff, Bool.or_eq_false_iff, ge_iff_le, gt_iff_lt, Int.not_lt, Int.not_le, ne_eq, Decidable.not_not, bne_eq_false_iff_eq] at hg7_25
          refine g0 2 false 25 26 4 rfl rfl rfl rfl rfl rfl ?_
          refine g0 2 false 25 27 5 rfl rfl rfl rfl rfl rfl ?_
          refine g0 2 false 25 28 6 rfl rfl rfl rfl rfl rfl ?_
          refine g0 2 false 25 29 7 rfl rfl rfl rfl rfl rfl ?_
          refine s1 30 194 8 rfl rfl rfl rfl rfl rfl trivial ?_
          refine e1 202 rfl ?_
          refine keep [2, 3, 5, 6, 7, 8, 30] rfl ?_
          refine q1 rfl (fun hc7 => ?_) (fun hc7 => ?_)
          · skip
            try simp only [decide_eq_true_eq, decide_eq_false_iff_not, Bool.not_eq_true', Bool.not_eq_false', beq_iff_eq, bne_iff_ne, beq_eq_false_iff_ne, Bool.and_eq_true, Bool.or_eq_true, Bool.and_eq_false_iff, Bool.or_eq_false_iff, ge_iff_le, gt_iff_lt, Int.not_lt, Int.not_le, ne_eq, Decidable.not_not, bne_eq_false_iff_eq] at hc7
            refine r0 ?_
            refine s1 31 202 1 rfl rfl rfl rfl rfl rfl trivial ?_
            refine s1 32 210 2 rfl rfl rfl rfl rfl rfl trivial ?_
            refine s0 218 3 rfl rfl rfl rfl rfl (by first | trivial | omega | (simp only [List.length_map, List.length_append, List.length_cons, List.length_nil] at *; omega)) ?_
            refine e1 226 rfl ?_
            refine tn ?_
            refine r1 ?_
            refine s1 33 226 1 rfl rfl rfl rfl rfl rfl trivial ?_
            refine s1 34 234 2 rfl rfl rfl rfl rfl rfl (by first | trivial | omega | (simp only [List.length_map, List.length_append, List.length_cons, List.length_nil] at *; omega)) ?_
            refine s1 35 242 3 rfl rfl rfl rfl rfl rfl trivial ?_
            refine sA 36 250 4 rfl rfl rfl rfl rfl rfl rfl rfl rfl (by have := hs (n + 1) (by omega); exact this) ?_
            refine s1 37 258 5 rfl rfl rfl rfl rfl rfl trivial ?_
            refine s0 266 6 rfl rfl rfl rfl rfl (by first | trivial | omega | (simp only [List.length_map, List.length_append, List.length_cons, List.length_nil] at *; omega)) ?_
            refine e1 274 rfl ?_
            refine keep [2, 3, 6, 7, 8] rfl ?_
            refine r0 ?_
            refine s1 38 274 1 rfl rfl rfl rfl rfl rfl trivial ?_
            refine s1 39 282 2 rfl rfl rfl rfl rfl rfl (by first | trivial | omega | (simp only [List.length_map, List.length_append, List.length_cons, List.length_nil] at *; omega)) ?_
            refine sA 40 290 3 rfl rfl rfl rfl rfl rfl rfl rfl rfl (by have := fold_c l n; unfold inRange; omega) ?_
            refine s1 41 298 4 rfl rfl rfl rfl rfl rfl trivial ?_
            refine s0 306 5 rfl rfl rfl rfl rfl (by first | trivial | omega | (simp only [List.length_map, List.length_append, List.length_cons, List.length_nil] at *; omega)) ?_
            refine e1 314 rfl ?_
            refine bn ?_
            refine tn ?_
            refine chval 1 (rollBlk (foldTo l (n + 1))) rfl (blk_eq rfl (by simp only [Int.toNat_natCast] at *; simp only [foldTo, stepR]; split <;> omega) (by simp only [Int.toNat_natCast] at *; simp only [foldTo, stepR]; split <;> omega) rfl) ?_
            refine r0 ?_
            refine sA 42 314 1 rfl rfl rfl rfl rfl rfl rfl rfl rfl (by unfold inRange; omega) ?_
            refine s1 8 322 2 rfl rfl rfl rfl rfl rfl trivial ?_
            refine e1 330 rfl ?_
            refine tn ?_
            exact again (n + 1) [0, 1] (by omega) (by omega) rfl ⟨rfl, rfl, rfl, rfl, rfl, trivial⟩ ⟨rfl, rfl, trivial⟩
          · skip
            exact absurd hc7 (by decide)
        · skip
          try simp only [decide_eq_true_eq, decide_eq_false_iff_not, Bool.not_eq_true', Bool.not_eq_false', beq_iff_eq, bne_iff_ne, beq_eq_false_iff_ne, Bool.and_eq_true, Bool.or_eq_true, Bool.and_eq_false_iff, Bool.or_eq_false_iff, ge_iff_le, gt_iff_lt, Int.not_lt, Int.not_le, ne_eq, Decidable.not_not, bne_eq_false_iff_eq] at hg7_25
          refine g1 2 false 25 26 4 rfl rfl rfl rfl rfl ?_
          refine s1 26 162 4 rfl rfl rfl rfl rfl rfl trivial ?_
          refine g1 2 false 25 27 5 rfl rfl rfl rfl rfl ?_
          refine s1 27 170 5 rfl rfl rfl rfl rfl rfl trivial ?_
          refine g1 2 false 25 28 6 rfl rfl rfl rfl rfl ?_
          refine s1 28 178 6 rfl rfl rfl rfl rfl rfl (by first | trivial | omega | (simp only [List.length_map, List.length_append, List.length_cons, List.length_nil] at *; omega)) ?_
          refine g1 2 false 25 29 7 rfl rfl rfl rfl rfl ?_
          refine s1 29 186 7 rfl rfl rfl rfl rfl rfl (by first | trivial | omega | (simp only [List.length_map, List.length_append, List.length_cons, List.length_nil] at *; omega)) ?_
          refine s1 30 194 8 rfl rfl rfl rfl rfl rfl trivial ?_
          refine e1 202 rfl ?_
          refine keep [2, 3, 5, 6, 7, 8, 30] rfl ?_
          refine q1 rfl (fun hc7 => ?_) (fun hc7 => ?_)
          · skip
            try simp only [decide_eq_true_eq, decide_eq_false_iff_not, Bool.not_eq_true', Bool.not_eq_false', beq_iff_eq, bne_iff_ne, beq_eq_false_iff_ne, Bool.and_eq_true, Bool.or_eq_true, Bool.and_eq_false_iff, Bool.or_eq_false_iff, ge_iff_le, gt_iff_lt, Int.not_lt, Int.not_le, ne_eq, Decidable.not_not, bne_eq_false_iff_eq] at hc7
            refine r0 ?_
            refine s1 31 202 1 rfl rfl rfl rfl rfl rfl trivial ?_
            refine s1 32 210 2 rfl rfl rfl rfl rfl rfl trivial ?_
            refine s0 218 3 rfl rfl rfl rfl rfl (by first | trivial | omega | (simp only [List.length_map, List.length_append, List.length_cons, List.length_nil] at *; omega)) ?_
            refine e1 226 rfl ?_
            refine tn ?_
            refine r1 ?_
            refine s1 33 226 1 rfl rfl rfl rfl rfl rfl trivial ?_
            refine s1 34 234 2 rfl rfl rfl rfl rfl rfl (by first | trivial | omega | (simp only [List.length_map, List.length_append, List.length_cons, List.length_nil] at *; omega)) ?_
            refine s1 35 242 3 rfl rfl rfl rfl rfl rfl trivial ?_
            refine sA 36 250 4 rfl rfl rfl rfl rfl rfl rfl rfl rfl (by have := hs (n + 1) (by omega); exact this) ?_
            refine s1 37 258 5 rfl rfl rfl rfl rfl rfl trivial ?_
            refine s0 266 6 rfl rfl rfl rfl rfl (by first | trivial | omega | (simp only [List.length_map, List.length_append, List.length_cons, List.length_nil] at *; omega)) ?_
            refine e1 274 rfl ?_
            refine keep [2, 3, 6, 7, 8] rfl ?_
            refine r0 ?_
            refine s1 38 274 1 rfl rfl rfl rfl rfl rfl trivial ?_
            refine s1 39 282 2 rfl rfl rfl rfl rfl rfl (by first | trivial | omega | (simp only [List.length_map, List.length_append, List.length_cons, List.length_nil] at *; omega)) ?_
            refine sA 40 290 3 rfl rfl rfl rfl rfl rfl rfl rfl rfl (by have := fold_c l n; unfold inRange; omega) ?_
            refine s1 41 298 4 rfl rfl rfl rfl rfl rfl trivial ?_
            refine s0 306 5 rfl rfl rfl rfl rfl (by first | trivial | omega | (simp only [List.length_map, List.length_append, List.length_cons, List.length_nil] at *; omega)) ?_
            refine e1 314 rfl ?_
            refine bn ?_
            refine tn ?_
            refine chval 1 (rollBlk (foldTo l (n + 1))) rfl (blk_eq rfl (by simp only [Int.toNat_natCast] at *; simp only [foldTo, stepR]; split <;> omega) (by simp only [Int.toNat_natCast] at *; simp only [foldTo, stepR]; split <;> omega) rfl) ?_
            refine r0 ?_
            refine sA 42 314 1 rfl rfl rfl rfl rfl rfl rfl rfl rfl (by unfold inRange; omega) ?_
            refine s1 8 322 2 rfl rfl rfl rfl rfl rfl trivial ?_
            refine e1 330 rfl ?_
            refine tn ?_
            exact again (n + 1) [0, 1] (by omega) (by omega) rfl ⟨rfl, rfl, rfl, rfl, rfl, trivial⟩ ⟨rfl, rfl, trivial⟩
          · skip
            try simp only [decide_eq_true_eq, decide_eq_false_iff_not, Bool.not_eq_true', Bool.not_eq_false', beq_iff_eq, bne_iff_ne, beq_eq_false_iff_ne, Bool.and_eq_true, Bool.or_eq_true, Bool.and_eq_false_iff, Bool.or_eq_false_iff, ge_iff_le, gt_iff_lt, Int.not_lt, Int.not_le, ne_eq, Decidable.not_not, bne_eq_false_iff_eq] at hc7
            refine W_skip ?_
            refine tn ?_
            refine r1 ?_
            refine s1 33 202 1 rfl rfl rfl rfl rfl rfl trivial ?_
            refine s1 34 210 2 rfl rfl rfl rfl rfl rfl (by first | trivial | omega | (simp only [List.length_map, List.length_append, List.length_cons, List.length_nil] at *; omega)) ?_
            refine s1 35 218 3 rfl rfl rfl rfl rfl rfl trivial ?_
            refine sA 36 226 4 rfl rfl rfl rfl rfl rfl rfl rfl rfl (by have := hs (n + 1) (by omega); exact this) ?_
            refine s1 37 234 5 rfl rfl rfl rfl rfl rfl trivial ?_
            refine s0 242 6 rfl rfl rfl rfl rfl (by first | trivial | omega | (simp only [List.length_map, List.length_append, List.length_cons, List.length_nil] at *; omega)) ?_
            refine e1 250 rfl ?_
            refine keep [2, 3, 6, 7, 8] rfl ?_
            refine r0 ?_
            refine s1 38 250 1 rfl rfl rfl rfl rfl rfl trivial ?_
            refine s1 39 258 2 rfl rfl rfl rfl rfl rfl (by first | trivial | omega | (simp only [List.length_map, List.length_append, List.length_cons, List.length_nil] at *; omega)) ?_
            refine sA 40 266 3 rfl rfl rfl rfl rfl rfl rfl rfl rfl (by have := fold_c l n; unfold inRange; omega) ?_
            refine s1 41 274 4 rfl rfl rfl rfl rfl rfl trivial ?_
            refine s0 282 5 rfl rfl rfl rfl rfl (by first | trivial | omega | (simp only [List.length_map, List.length_append, List.length_cons, List.length_nil] at *; omega)) ?_
            refine e1 290 rfl ?_
            refine bn ?_
            refine tn ?_
            refine chval 1 (rollBlk (foldTo l (n + 1))) rfl (blk_eq rfl (by simp only [Int.toNat_natCast] at *; simp only [foldTo, stepR]; split <;> omega) (by simp only [Int.toNat_natCast] at *; simp only [foldTo, stepR]; split <;> omega) rfl) ?_
            refine r0 ?_
            refine sA 42 290 1 rfl rfl rfl rfl rfl rfl rfl rfl rfl (by unfold inRange; omega) ?_
            refine s1 8 298 2 rfl rfl rfl rfl rfl rfl trivial ?_
            refine e1 306 rfl ?_
            refine tn ?_
            exact again (n + 1) [0, 1] (by omega) (by omega) rfl ⟨rfl, rfl, rfl, rfl, rfl, trivial⟩ ⟨rfl, rfl, trivial⟩
      · skip
        try simp only [decide_eq_true_eq, decide_eq_false_iff_not, Bool.not_eq_true', Bool.not_eq_false', beq_iff_eq, bne_iff_ne, beq_eq_false_iff_ne, Bool.and_eq_true, Bool.or_eq_true, Bool.and_eq_false_iff, Bool.or_eq_false_iff, ge_iff_le, gt_iff_lt, Int.not_lt, Int.not_le, ne_eq, Decidable.not_not, bne_eq_false_iff_eq] at hc5
        refine W_skip ?_
        refine tn ?_
        refine W_seq ?_
        refine r1 ?_
        refine s1 23 114 1 rfl rfl rfl rfl rfl rfl trivial ?_
        refine s1 24 122 2 rfl rfl rfl rfl rfl rfl (by first | trivial | omega | (simp only [List.length_map, List.length_append, List.length_cons, List.length_nil] at *; omega)) ?_
        refine s1 25 130 3 rfl rfl rfl rfl rfl rfl trivial ?_
        refine ask 25 rfl (fun hg7_25 => ?_) (fun hg7_25 => ?_)
        · skip
          try simp only [decide_eq_true_eq, decide_eq_false_iff_not, Bool.not_eq_true', Bool.not_eq_false', beq_iff_eq, bne_iff_ne, beq_eq_false_iff_ne, Bool.and_eq_true, Bool.or_eq_true, Bool.and_eq_false_iff, Bool.or_eq_false_iff, ge_iff_le, gt_iff_lt, Int.not_lt, Int.not_le, ne_eq, Decidable.not_not, bne_eq_false_iff_eq] at hg7_25
          refine g0 2 false 25 26 4 rfl rfl rfl rfl rfl rfl ?_
          refine g0 2 false 25 27 5 rfl rfl rfl rfl rfl rfl ?_
          refine g0 2 false 25 28 6 rfl rfl rfl rfl rfl rfl ?_
          refine g0 2 false 25 29 7 rfl rfl rfl rfl rfl rfl ?_
          refine s1 30 170 8 rfl rfl rfl rfl rfl rfl trivial ?_
          refine e1 178 rfl ?_
          refine keep [2, 3, 5, 6, 7, 8, 30] rfl ?_
          refine q1 rfl (fun hc7 => ?_) (fun hc7 => ?_)
          · skip
            try simp only [decide_eq_true_eq, decide_eq_false_iff_not, Bool.not_eq_true', Bool.not_eq_false', beq_iff_eq, bne_iff_ne, beq_eq_false_iff_ne, Bool.and_eq_true, Bool.or_eq_true, Bool.and_eq_false_iff, Bool.or_eq_false_iff, ge_iff_le, gt_iff_lt, Int.not_lt, Int.not_le, ne_eq, Decidable.not_not, bne_eq_false_iff_eq] at hc7
            refine r0 ?_
            refine s1 31 178 1 rfl rfl rfl rfl rfl rfl trivial ?_
            refine s1 32 186 2 rfl rfl rfl rfl rfl rfl trivial ?_
            refine s0 194 3 rfl rfl rfl rfl rfl (by first | trivial | omega | (simp only [List.length_map, List.length_append, List.length_cons, List.length_nil] at *; omega)) ?_
            refine e1 202 rfl ?_
            refine tn ?_
            refine r1 ?_
            refine s1 33 202 1 rfl rfl rfl rfl rfl rfl trivial ?_
            refine s1 34 210 2 rfl rfl rfl rfl rfl rfl (by first | trivial | omega | (simp only [List.length_map, List.length_append, List.length_cons, List.length_nil] at *; omega)) ?_
            refine s1 35 218 3 rfl rfl rfl rfl rfl rfl trivial ?_
            refine sA 36 226 4 rfl rfl rfl rfl rfl rfl rfl rfl rfl (by have := hs (n + 1) (by omega); exact this) ?_
            refine s1 37 234 5 rfl rfl rfl rfl rfl rfl trivial ?_
            refine s0 242 6 rfl rfl rfl rfl rfl (by first | trivial | omega | (simp only [List.length_map, List.length_append, List.length_cons, List.length_nil] at *; omega)) ?_
            refine e1 250 rfl ?_
            refine keep [2, 3, 6, 7, 8] rfl ?_
            refine r0 ?_
            refine s1 38 250 1 rfl rfl rfl rfl rfl rfl trivial ?_
            refine s1 39 258 2 rfl rfl rfl rfl rfl rfl (by first | trivial | omega | (simp only [List.length_map, List.length_append, List.length_cons, List.length_nil] at *; omega)) ?_
            refine sA 40 266 3 rfl rfl rfl rfl rfl rfl rfl rfl rfl (by have := fold_c l n; unfold inRange; omega) ?_
            refine s1 41 274 4 rfl rfl rfl rfl rfl rfl trivial ?_
            refine s0 282 5 rfl rfl rfl rfl rfl (by first | trivial | omega | (simp only [List.length_map, List.length_append, List.length_cons, List.length_nil] at *; omega)) ?_
            refine e1 290 rfl ?_
            refine bn ?_
            refine tn ?_
            refine chval 1 (rollBlk (foldTo l (n + 1))) rfl (blk_eq rfl (by simp only [Int.toNat_natCast] at *; simp only [foldTo, stepR]; split <;> omega) (by simp only [Int.toNat_natCast] at *; simp only [foldTo, stepR]; split <;> omega) rfl) ?_
            refine r0 ?_
            refine sA 42 290 1 rfl rfl rfl rfl rfl rfl rfl rfl rfl (by unfold inRange; omega) ?_
            refine s1 8 298 2 rfl rfl rfl rfl rfl rfl trivial ?_
            refine e1 306 rfl ?_
            refine tn ?_
            exact again (n + 1) [0, 1] (by omega) (by omega) rfl ⟨rfl, rfl, rfl, rfl, rfl, trivial⟩ ⟨rfl, rfl, trivial⟩
          · skip
            exact absurd hc7 (by decide)
        · skip
          try simp only [decide_eq_true_eq, decide_eq_false_iff_not, Bool.not_eq_true', Bool.not_eq_false', beq_iff_eq, bne_iff_ne, beq_eq_false_iff_ne, Bool.and_eq_true, Bool.or_eq_true, Bool.and_eq_false_iff, Bool.or_eq_false_iff, ge_iff_le, gt_iff_lt, Int.not_lt, Int.not_le, ne_eq, Decidable.not_not, bne_eq_false_iff_eq] at hg7_25
          refine g1 2 false 25 26 4 rfl rfl rfl rfl rfl ?_
          refine s1 26 138 4 rfl rfl rfl rfl rfl rfl trivial ?_
          refine g1 2 false 25 27 5 rfl rfl rfl rfl rfl ?_
          refine s1 27 146 5 rfl rfl rfl rfl rfl rfl trivial ?_
          refine g1 2 false 25 28 6 rfl rfl rfl rfl rfl ?_
          refine s1 28 154 6 rfl rfl rfl rfl rfl rfl (by first | trivial | omega | (simp only [List.length_map, List.length_append, List.length_cons, List.length_nil] at *; omega)) ?_
          refine g1 2 false 25 29 7 rfl rfl rfl rfl rfl ?_
          refine s1 29 162 7 rfl rfl rfl rfl rfl rfl (by first | trivial | omega | (simp only [List.length_map, List.length_append, List.length_cons, List.length_nil] at *; omega)) ?_
          refine s1 30 170 8 rfl rfl rfl rfl rfl rfl trivial ?_
          refine e1 178 rfl ?_
          refine keep [2, 3, 5, 6, 7, 8, 30] rfl ?_
          refine q1 rfl (fun hc7 => ?_) (fun hc7 => ?_)
          · skip
            try simp only [decide_eq_true_eq, decide_eq_false_iff_not, Bool.not_eq_true', Bool.not_eq_false', beq_iff_eq, bne_iff_ne, beq_eq_false_iff_ne, Bool.and_eq_true, Bool.or_eq_true, Bool.and_eq_false_iff, Bool.or_eq_false_iff, ge_iff_le, gt_iff_lt, Int.not_lt, Int.not_le, ne_eq, Decidable.not_not, bne_eq_false_iff_eq] at hc7
            refine r0 ?_
            refine s1 31 178 1 rfl rfl rfl rfl rfl rfl trivial ?_
            refine s1 32 186 2 rfl rfl rfl rfl rfl rfl trivial ?_
            refine s0 194 3 rfl rfl rfl rfl rfl (by first | trivial | omega | (simp only [List.length_map, List.length_append, List.length_cons, List.length_nil] at *; omega)) ?_
            refine e1 202 rfl ?_
            refine tn ?_
            refine r1 ?_
            refine s1 33 202 1 rfl rfl rfl rfl rfl rfl trivial ?_
            refine s1 34 210 2 rfl rfl rfl rfl rfl rfl (by first | trivial | omega | (simp only [List.length_map, List.length_append, List.length_cons, List.length_nil] at *; omega)) ?_
            refine s1 35 218 3 rfl rfl rfl rfl rfl rfl trivial ?_
            refine sA 36 226 4 rfl rfl rfl rfl rfl rfl rfl rfl rfl (by have := hs (n + 1) (by omega); exact this) ?_
            refine s1 37 234 5 rfl rfl rfl rfl rfl rfl trivial ?_
            refine s0 242 6 rfl rfl rfl rfl rfl (by first | trivial | omega | (simp only [List.length_map, List.length_append, List.length_cons, List.length_nil] at *; omega)) ?_
            refine e1 250 rfl ?_
            refine keep [2, 3, 6, 7, 8] rfl ?_
            refine r0 ?_
            refine s1 38 250 1 rfl rfl rfl rfl rfl rfl trivial ?_
            refine s1 39 258 2 rfl rfl rfl rfl rfl rfl (by first | trivial | omega | (simp only [List.length_map, List.length_append, List.length_cons, List.length_nil] at *; omega)) ?_
            refine sA 40 266 3 rfl rfl rfl rfl rfl rfl rfl rfl rfl (by have := fold_c l n; unfold inRange; omega) ?_
            refine s1 41 274 4 rfl rfl rfl rfl rfl rfl trivial ?_
            refine s0 282 5 rfl rfl rfl rfl rfl (by first | trivial | omega | (simp only [List.length_map, List.length_append, List.length_cons, List.length_nil] at *; omega)) ?_
            refine e1 290 rfl ?_
            refine bn ?_
            refine tn ?_
            refine chval 1 (rollBlk (foldTo l (n + 1))) rfl (blk_eq rfl (by simp only [Int.toNat_natCast] at *; simp only [foldTo, stepR]; split <;> omega) (by simp only [Int.toNat_natCast] at *; simp only [foldTo, stepR]; split <;> omega) rfl) ?_
            refine r0 ?_
            refine sA 42 290 1 rfl rfl rfl rfl rfl rfl rfl rfl rfl (by unfold inRange; omega) ?_
            refine s1 8 298 2 rfl rfl rfl rfl rfl rfl trivial ?_
            refine e1 306 rfl ?_
            refine tn ?_
            exact again (n + 1) [0, 1] (by omega) (by omega) rfl ⟨rfl, rfl, rfl, rfl, rfl, trivial⟩ ⟨rfl, rfl, trivial⟩
          · skip
            try simp only [decide_eq_true_eq, decide_eq_false_iff_not, Bool.not_eq_true', Bool.not_eq_false', beq_iff_eq, bne_iff_ne, beq_eq_false_iff_ne, Bool.and_eq_true, Bool.or_eq_true, Bool.and_eq_false_iff, Bool.or_eq_false_iff, ge_iff_le, gt_iff_lt, Int.not_lt, Int.not_le, ne_eq, Decidable.not_not, bne_eq_false_iff_eq] at hc7
            refine W_skip ?_
            refine tn ?_
            refine r1 ?_
            refine s1 33 178 1 rfl rfl rfl rfl rfl rfl trivial ?_
            refine s1 34 186 2 rfl rfl rfl rfl rfl rfl (by first | trivial | omega | (simp only [List.length_map, List.length_append, List.length_cons, List.length_nil] at *; omega)) ?_
            refine s1 35 194 3 rfl rfl rfl rfl rfl rfl trivial ?_
            refine sA 36 202 4 rfl rfl rfl rfl rfl rfl rfl rfl rfl (by have := hs (n + 1) (by omega); exact this) ?_
            refine s1 37 210 5 rfl rfl rfl rfl rfl rfl trivial ?_
            refine s0 218 6 rfl rfl rfl rfl rfl (by first | trivial | omega | (simp only [List.length_map, List.length_append, List.length_cons, List.length_nil] at *; omega)) ?_
            refine e1 226 rfl ?_
            refine keep [2, 3, 6, 7, 8] rfl ?_
            refine r0 ?_
            refine s1 38 226 1 rfl rfl rfl rfl rfl rfl trivial ?_
            refine s1 39 234 2 rfl rfl rfl rfl rfl rfl (by first | trivial | omega | (simp only [List.length_map, List.length_append, List.length_cons, List.length_nil] at *; omega)) ?_
            refine sA 40 242 3 rfl rfl rfl rfl rfl rfl rfl rfl rfl (by have := fold_c l n; unfold inRange; omega) ?_
            refine s1 41 250 4 rfl rfl rfl rfl rfl rfl trivial ?_
            refine s0 258 5 rfl rfl rfl rfl rfl (by first | trivial | omega | (simp only [List.length_map, List.length_append, List.length_cons, List.length_nil] at *; omega)) ?_
            refine e1 266 rfl ?_
            refine bn ?_
            refine tn ?_
            refine chval 1 (rollBlk (foldTo l (n + 1))) rfl (blk_eq rfl (by simp only [Int.toNat_natCast] at *; simp only [foldTo, stepR]; split <;> omega) (by simp only [Int.toNat_natCast] at *; simp only [foldTo, stepR]; split <;> omega) rfl) ?_
            refine r0 ?_
            refine sA 42 266 1 rfl rfl rfl rfl rfl rfl rfl rfl rfl (by unfold inRange; omega) ?_
            refine s1 8 274 2 rfl rfl rfl rfl rfl rfl trivial ?_
            refine e1 282 rfl ?_
            refine tn ?_
            exact again (n + 1) [0, 1] (by omega) (by omega) rfl ⟨rfl, rfl, rfl, rfl, rfl, trivial⟩ ⟨rfl, rfl, trivial⟩
  · skip
    try simp only [decide_eq_true_eq, decide_eq_false_iff_not, Bool.not_eq_true', Bool.not_eq_false', beq_iff_eq, bne_iff_ne, beq_eq_false_iff_ne, Bool.and_eq_true, Bool.or_eq_true, Bool.and_eq_false_iff, Bool.or_eq_false_iff, ge_iff_le, gt_iff_lt, Int.not_lt, Int.not_le, ne_eq, Decidable.not_not, bne_eq_false_iff_eq] at hc3
    refine W_exit ?_
    refine tx ?_
    refine tx ?_
    refine bx ?_
    refine tn ?_
    obtain rfl : n = l.length := (by omega)
    refine r1 ?_
    refine s1 43 10 1 rfl rfl rfl rfl rfl rfl (by first | trivial | omega | (simp only [List.length_map, List.length_append, List.length_cons, List.length_nil] at *; omega)) ?_
    refine s0 18 2 rfl rfl rfl rfl rfl (by first | trivial | omega | (simp only [List.length_map, List.length_append, List.length_cons, List.length_nil] at *; omega)) ?_
    refine e1 26 rfl ?_
    refine keep [2] rfl ?_
    refine W_ret ?_
    exact outN (rollS (foldTo l l.length)) (π := []) (hout := []) Try.results9 rfl (by trivial) rfl rfl rfl trivial ⟨rfl, rfl⟩

theorem refJoin_any (a b : Roll) : Spec Try.prog G0 5 [rollS a, rollS b] [] (fun r ho => r = SV.tup [rollS (join a b).1, SV.i (join a b).2] ∧ ho = []) := by
  refine start 62 0 Try.func5 rfl rfl rfl rfl ?_
  refine r1 ?_
  refine s1 2 0 1 rfl rfl rfl rfl rfl rfl trivial ?_
  refine s1 3 8 2 rfl rfl rfl rfl rfl rfl trivial ?_
  refine s1 4 16 3 rfl rfl rfl rfl rfl rfl trivial ?_
  refine s1 5 24 4 rfl rfl rfl rfl rfl rfl trivial ?_
  refine e1 32 rfl ?_
  refine keep [2, 3, 4] rfl ?_
  refine W_seq ?_
  refine r1 ?_
  refine s1 9 32 1 rfl rfl rfl rfl rfl rfl (by first | trivial | omega | (simp only [List.length_map, List.length_append, List.length_cons, List.length_nil] at *; omega)) ?_
  refine c1 (refMay_any a) [] [] 10 40 2 rfl rfl rfl rfl rfl rfl rfl rfl Try.func8 rfl rfl rfl rfl trivial rfl rfl ?_
  refine s1 11 48 3 rfl rfl rfl rfl rfl rfl trivial ?_
  refine s1 12 56 4 rfl rfl rfl rfl rfl rfl trivial ?_
  refine ask 12 rfl (fun hg1_12 => ?_) (fun hg1_12 => ?_)
  · skip
    try simp only [decide_eq_true_eq, decide_eq_false_iff_not, Bool.not_eq_true', Bool.not_eq_false', beq_iff_eq, bne_iff_ne, beq_eq_false_iff_ne, Bool.and_eq_true, Bool.or_eq_true, Bool.and_eq_false_iff, Bool.or_eq_false_iff, ge_iff_le, gt_iff_lt, Int.not_lt, Int.not_le, ne_eq, Decidable.not_not, bne_eq_false_iff_eq] at hg1_12
    refine g0 3 false 12 13 5 rfl rfl rfl rfl rfl rfl ?_
    refine g0 3 false 12 14 6 rfl rfl rfl rfl rfl rfl ?_
    refine g0 3 false 12 15 7 rfl rfl rfl rfl rfl rfl ?_
    refine s1 16 88 8 rfl rfl rfl rfl rfl rfl trivial ?_
    refine e1 96 rfl ?_
    refine keep [2, 3, 4, 16] rfl ?_
    refine q1 rfl (fun hc1 => ?_) (fun hc1 => ?_)
    · skip
      try simp only [decide_eq_true_eq, decide_eq_false_iff_not, Bool.not_eq_true', Bool.not_eq_false', beq_iff_eq, bne_iff_ne, beq_eq_false_iff_ne, Bool.and_eq_true, Bool.or_eq_true, Bool.and_eq_false_iff, Bool.or_eq_false_iff, ge_iff_le, gt_iff_lt, Int.not_lt, Int.not_le, ne_eq, Decidable.not_not, bne_eq_false_iff_eq] at hc1
      refine r1 ?_
      refine s1 17 96 1 rfl rfl rfl rfl rfl rfl trivial ?_
      refine s0 104 2 rfl rfl rfl rfl rfl (by first | trivial | omega | (simp only [List.length_map, List.length_append, List.length_cons, List.length_nil] at *; omega)) ?_
      refine s1 5 112 3 rfl rfl rfl rfl rfl rfl trivial ?_
      refine e1 120 rfl ?_
      refine keep [4, 5] rfl ?_
      refine W_ret ?_
      refine tr ?_
      exact outN (SV.tup [rollS (join a b).1, SV.i (join a b).2]) (π := []) (hout := []) Try.results5 rfl (by trivial) (by rw [join_form (by simp [*])]; rfl) rfl rfl trivial ⟨rfl, rfl⟩
    · skip
      exact absurd hc1 (by decide)
  · skip
    try simp only [decide_eq_true_eq, decide_eq_false_iff_not, Bool.not_eq_true', Bool.not_eq_false', beq_iff_eq, bne_iff_ne, beq_eq_false_iff_ne, Bool.and_eq_true, Bool.or_eq_true, Bool.and_eq_false_iff, Bool.or_eq_false_iff, ge_iff_le, gt_iff_lt, Int.not_lt, Int.not_le, ne_eq, Decidable.not_not, bne_eq_false_iff_eq] at hg1_12
    refine g1 3 false 12 13 5 rfl rfl rfl rfl rfl ?_
    refine s1 13 64 5 rfl rfl rfl rfl rfl rfl (by first | trivial | omega | (simp only [List.length_map, List.length_append, List.length_cons, List.length_nil] at *; omega)) ?_
    refine g1 3 false 12 14 6 rfl rfl rfl rfl rfl ?_
    refine c1 (refMay_any b) [] [] 14 72 6 rfl rfl rfl rfl rfl rfl rfl rfl Try.func8 rfl rfl rfl rfl trivial rfl rfl ?_
    refine g1 3 false 12 15 7 rfl rfl rfl rfl rfl ?_
    refine s1 15 80 7 rfl rfl rfl rfl rfl rfl trivial ?_
    refine s1 16 88 8 rfl rfl rfl rfl rfl rfl trivial ?_
    refine e1 96 rfl ?_
    refine keep [2, 3, 4, 16] rfl ?_
    refine q1 rfl (fun hc1 => ?_) (fun hc1 => ?_)
    · skip
      try simp only [decide_eq_true_eq, decide_eq_false_iff_not, Bool.not_eq_true', Bool.not_eq_false', beq_iff_eq, bne_iff_ne, beq_eq_false_iff_ne, Bool.and_eq_true, Bool.or_eq_true, Bool.and_eq_false_iff, Bool.or_eq_false_iff, ge_iff_le, gt_iff_lt, Int.not_lt, Int.not_le, ne_eq, Decidable.not_not, bne_eq_false_iff_eq] at hc1
      refine r1 ?_
      refine s1 17 96 1 rfl rfl rfl rfl rfl rfl trivial ?_
      refine s0 104 2 rfl rfl rfl rfl rfl (by first | trivial | omega | (simp only [List.length_map, List.length_append, List.length_cons, List.length_nil] at *; omega)) ?_
      refine s1 5 112 3 rfl rfl rfl rfl rfl rfl trivial ?_
      refine e1 120 rfl ?_
      refine keep [4, 5] rfl ?_
      refine W_ret ?_
      refine tr ?_
      exact outN (SV.tup [rollS (join a b).1, SV.i (join a b).2]) (π := []) (hout := []) Try.results5 rfl (by trivial) (by rw [join_form (by simp [*])]; rfl) rfl rfl trivial ⟨rfl, rfl⟩
    · skip
      try simp only [decide_eq_true_eq, decide_eq_false_iff_not, Bool.not_eq_true', Bool.not_eq_false', beq_iff_eq, bne_iff_ne, beq_eq_false_iff_ne, Bool.and_eq_true, Bool.or_eq_true, Bool.and_eq_false_iff, Bool.or_eq_false_iff, ge_iff_le, gt_iff_lt, Int.not_lt, Int.not_le, ne_eq, Decidable.not_not, bne_eq_false_iff_eq] at hc1
      refine W_skip ?_
      refine tn ?_
      have hA := hg1_12
      have hB := hc1
      refine r1 ?_
      refine s1 18 96 1 rfl rfl rfl rfl rfl rfl trivial ?_
      refine s1 19 104 2 rfl rfl rfl rfl rfl rfl (by first | trivial | omega | (simp only [List.length_map, List.length_append, List.length_cons, List.length_nil] at *; omega)) ?_
      refine s1 20 112 3 rfl rfl rfl rfl rfl rfl trivial ?_
      refine s1 21 120 4 rfl rfl rfl rfl rfl rfl (by first | trivial | omega | (simp only [List.length_map, List.length_append, List.length_cons, List.length_nil] at *; omega)) ?_
      refine sA 22 128 5 rfl rfl rfl rfl rfl rfl rfl rfl rfl (by have := may_out hA; have := may_out hB; unfold inRange; omega) ?_
      refine s1 23 136 6 rfl rfl rfl rfl rfl rfl trivial ?_
      refine s1 24 144 7 rfl rfl rfl rfl rfl rfl (by first | trivial | omega | (simp only [List.length_map, List.length_append, List.length_cons, List.length_nil] at *; omega)) ?_
      refine s1 25 152 8 rfl rfl rfl rfl rfl rfl trivial ?_
      refine s1 26 160 9 rfl rfl rfl rfl rfl rfl (by first | trivial | omega | (simp only [List.length_map, List.length_append, List.length_cons, List.length_nil] at *; omega)) ?_
      refine sA 27 168 10 rfl rfl rfl rfl rfl rfl rfl rfl rfl (by have := may_out hA; have := may_out hB; unfold inRange; omega) ?_
      refine s1 28 176 11 rfl rfl rfl rfl rfl rfl trivial ?_
      refine s1 6 184 12 rfl rfl rfl rfl rfl rfl trivial ?_
      refine s0 192 13 rfl rfl rfl rfl rfl (by first | trivial | omega | (simp only [List.length_map, List.length_append, List.length_cons, List.length_nil] at *; omega)) ?_
      refine e1 200 rfl ?_
      refine keep [2, 3, 4, 6] rfl ?_
      refine r1 ?_
      refine s1 7 200 1 rfl rfl rfl rfl rfl rfl trivial ?_
      refine e1 208 rfl ?_
      refine keep [2, 3, 4, 6, 7] rfl ?_
      refine W_seq ?_
      refine r1 ?_
      refine s1 29 208 1 rfl rfl rfl rfl rfl rfl trivial ?_
      refine s1 30 216 2 rfl rfl rfl rfl rfl rfl (by first | trivial | omega | (simp only [List.length_map, List.length_append, List.length_cons, List.length_nil] at *; omega)) ?_
      refine s1 31 224 3 rfl rfl rfl rfl rfl rfl (by first | trivial | omega | (simp only [List.length_map, List.length_append, List.length_cons, List.length_nil] at *; omega)) ?_
      refine e1 232 rfl ?_
      refine keep [2, 3, 4, 6, 7, 31] rfl ?_
      refine q1 rfl (fun hc5 => ?_) (fun hc5 => ?_)
      · skip
        try simp only [decide_eq_true_eq, decide_eq_false_iff_not, Bool.not_eq_true', Bool.not_eq_false', beq_iff_eq, bne_iff_ne, beq_eq_false_iff_ne, Bool.and_eq_true, Bool.or_eq_true, Bool.and_eq_false_iff, Bool.or_eq_false_iff, ge_iff_le, gt_iff_lt, Int.not_lt, Int.not_le, ne_eq, Decidable.not_not, bne_eq_false_iff_eq] at hc5
        refine r0 ?_
        refine s1 32 232 1 rfl rfl rfl rfl rfl rfl trivial ?_
        refine s1 33 240 2 rfl rfl rfl rfl rfl rfl trivial ?_
        refine s1 34 248 3 rfl rfl rfl rfl rfl rfl (by first | trivial | omega | (simp only [List.length_map, List.length_append, List.length_cons, List.length_nil] at *; omega)) ?_
        refine s1 35 256 4 rfl rfl rfl rfl rfl rfl trivial ?_
        refine s1 36 264 5 rfl rfl rfl rfl rfl rfl (by first | trivial | omega | (simp only [List.length_map, List.length_append, List.length_cons, List.length_nil] at *; omega)) ?_
        refine s1 37 272 6 rfl rfl rfl rfl rfl rfl trivial ?_
        refine s1 38 280 7 rfl rfl rfl rfl rfl rfl (by first | trivial | omega | (simp only [List.length_map, List.length_append, List.length_cons, List.length_nil] at *; omega)) ?_
        refine s1 7 288 8 rfl rfl rfl rfl rfl rfl trivial ?_
        refine e1 296 rfl ?_
        refine tn ?_
        refine W_seq ?_
        refine r1 ?_
        refine s1 39 296 1 rfl rfl rfl rfl rfl rfl trivial ?_
        refine s1 40 304 2 rfl rfl rfl rfl rfl rfl (by first | trivial | omega | (simp only [List.length_map, List.length_append, List.length_cons, List.length_nil] at *; omega)) ?_
        refine s1 41 312 3 rfl rfl rfl rfl rfl rfl (by first | trivial | omega | (simp only [List.length_map, List.length_append, List.length_cons, List.length_nil] at *; omega)) ?_
        refine e1 320 rfl ?_
        refine keep [3, 4, 6, 7, 41] rfl ?_
        refine q1 rfl (fun hc7 => ?_) (fun hc7 => ?_)
        · skip
          try simp only [decide_eq_true_eq, decide_eq_false_iff_not, Bool.not_eq_true', Bool.not_eq_false', beq_iff_eq, bne_iff_ne, beq_eq_false_iff_ne, Bool.and_eq_true, Bool.or_eq_true, Bool.and_eq_false_iff, Bool.or_eq_false_iff, ge_iff_le, gt_iff_lt, Int.not_lt, Int.not_le, ne_eq, Decidable.not_not, bne_eq_false_iff_eq] at hc7
          refine r0 ?_
          refine s1 42 320 1 rfl rfl rfl rfl rfl rfl trivial ?_
          refine s1 43 328 2 rfl rfl rfl rfl rfl rfl trivial ?_
          refine s1 44 336 3 rfl rfl rfl rfl rfl rfl (by first | trivial | omega | (simp only [List.length_map, List.length_append, List.length_cons, List.length_nil] at *; omega)) ?_
          refine s1 45 344 4 rfl rfl rfl rfl rfl rfl trivial ?_
          refine s1 46 352 5 rfl rfl rfl rfl rfl rfl (by first | trivial | omega | (simp only [List.length_map, List.length_append, List.length_cons, List.length_nil] at *; omega)) ?_
          refine s1 47 360 6 rfl rfl rfl rfl rfl rfl trivial ?_
          refine s1 48 368 7 rfl rfl rfl rfl rfl rfl (by first | trivial | omega | (simp only [List.length_map, List.length_append, List.length_cons, List.length_nil] at *; omega)) ?_
          refine s1 7 376 8 rfl rfl rfl rfl rfl rfl trivial ?_
          refine e1 384 rfl ?_
          refine tn ?_
          refine torows 368 4 (intsF [a.lo, a.hi, b.lo, b.hi]) rfl (by decide) (Nat.le_refl _) (fun i c hi hc => by have hc1 : c < 1 := hc; obtain rfl : c = 0 := (by omega); match i, hi with | 0, _ => rfl | 1, _ => rfl | 2, _ => rfl | 3, _ => rfl) ?_
          refine freeze 7 368 4 rfl rfl (Nat.le_refl _) ?_
          refine r1 ?_
          refine s1 49 384 1 rfl rfl rfl rfl rfl rfl trivial ?_
          refine c1 (rollOf_any [a.lo, a.hi, b.lo, b.hi] (by simp) (fold_in (l := [a.lo, a.hi, b.lo, b.hi]) (by simp) (fun j hj => by have := may_out hA; have := may_out hB; match j, hj with | 0, _ => (simp; omega) | 1, _ => (simp; omega) | 2, _ => (simp; omega) | 3, _ => (simp; omega)))) [] [] 50 392 2 rfl rfl rfl rfl rfl rfl rfl rfl Try.func9 rfl rfl rfl rfl trivial rfl rfl ?_
          refine s1 8 400 3 rfl rfl rfl rfl rfl rfl trivial ?_
          refine s0 408 4 rfl rfl rfl rfl rfl (by first | trivial | omega | (simp only [List.length_map, List.length_append, List.length_cons, List.length_nil] at *; omega)) ?_
          refine e1 416 rfl ?_
          refine keep [4, 6, 8] rfl ?_
          refine r1 ?_
          refine s1 51 416 1 rfl rfl rfl rfl rfl rfl trivial ?_
          refine s1 52 424 2 rfl rfl rfl rfl rfl rfl (by first | trivial | omega | (simp only [List.length_map, List.length_append, List.length_cons, List.length_nil] at *; omega)) ?_
          refine s1 53 432 3 rfl rfl rfl rfl rfl rfl trivial ?_
          refine s0 440 4 rfl rfl rfl rfl rfl (by first | trivial | omega | (simp only [List.length_map, List.length_append, List.length_cons, List.length_nil] at *; omega)) ?_
          refine e1 448 rfl ?_
          refine keep [4, 6, 8] rfl ?_
          refine r1 ?_
          refine s1 54 448 1 rfl rfl rfl rfl rfl rfl trivial ?_
          refine s1 55 456 2 rfl rfl rfl rfl rfl rfl (by first | trivial | omega | (simp only [List.length_map, List.length_append, List.length_cons, List.length_nil] at *; omega)) ?_
          refine s1 56 464 3 rfl rfl rfl rfl rfl rfl trivial ?_
          refine s0 472 4 rfl rfl rfl rfl rfl (by first | trivial | omega | (simp only [List.length_map, List.length_append, List.length_cons, List.length_nil] at *; omega)) ?_
          refine e1 480 rfl ?_
          refine keep [4, 6] rfl ?_
          refine W_seq ?_
          refine chval 184 (rollBlk (joined a b)) rfl (blk_eq (by have h1 := may_out hA; have h2 := may_out hB; simp [joined, foldTo, stepR] <;> (repeat' split) <;> (try dsimp only) <;> omega) (by have h1 := may_out hA; have h2 := may_out hB; simp [joined, foldTo, stepR] <;> (repeat' split) <;> (try dsimp only) <;> omega) (by have h1 := may_out hA; have h2 := may_out hB; simp [joined, foldTo, stepR] <;> (repeat' split) <;> (try dsimp only) <;> omega) (by have h1 := may_out hA; have h2 := may_out hB; simp [joined, foldTo, stepR] <;> (repeat' split) <;> (try dsimp only) <;> omega)) ?_
          refine r1 ?_
          refine s1 57 480 1 rfl rfl rfl rfl rfl rfl (by first | trivial | omega | (simp only [List.length_map, List.length_append, List.length_cons, List.length_nil] at *; omega)) ?_
          refine c1 (refMay_any (joined a b)) [] [] 58 488 2 rfl rfl rfl rfl rfl rfl rfl rfl Try.func8 rfl rfl rfl rfl trivial rfl rfl ?_
          refine s1 59 496 3 rfl rfl rfl rfl rfl rfl trivial ?_
          refine e1 504 rfl ?_
          refine keep [4, 6, 59] rfl ?_
          refine q1 rfl (fun hc12 => ?_) (fun hc12 => ?_)
          · skip
            try simp only [decide_eq_true_eq, decide_eq_false_iff_not, Bool.not_eq_true', Bool.not_eq_false', beq_iff_eq, bne_iff_ne, beq_eq_false_iff_ne, Bool.and_eq_true, Bool.or_eq_true, Bool.and_eq_false_iff, Bool.or_eq_false_iff, ge_iff_le, gt_iff_lt, Int.not_lt, Int.not_le, ne_eq, Decidable.not_not, bne_eq_false_iff_eq] at hc12
            refine r1 ?_
            refine s1 60 504 1 rfl rfl rfl rfl rfl rfl trivial ?_
            refine s0 512 2 rfl rfl rfl rfl rfl (by first | trivial | omega | (simp only [List.length_map, List.length_append, List.length_cons, List.length_nil] at *; omega)) ?_
            refine s1 5 520 3 rfl rfl rfl rfl rfl rfl trivial ?_
            refine e1 528 rfl ?_
            refine keep [4, 5] rfl ?_
            refine W_ret ?_
            refine tr ?_
            exact outN (SV.tup [rollS (join a b).1, SV.i (join a b).2]) (π := []) (hout := []) Try.results5 rfl (by trivial) (by rw [join_over hA hB hc12]; rfl) rfl rfl trivial ⟨rfl, rfl⟩
          · skip
            try simp only [decide_eq_true_eq, decide_eq_false_iff_not, Bool.not_eq_true', Bool.not_eq_false', beq_iff_eq, bne_iff_ne, beq_eq_false_iff_ne, Bool.and_eq_true, Bool.or_eq_true, Bool.and_eq_false_iff, Bool.or_eq_false_iff, ge_iff_le, gt_iff_lt, Int.not_lt, Int.not_le, ne_eq, Decidable.not_not, bne_eq_false_iff_eq] at hc12
            refine W_skip ?_
            refine tn ?_
            refine r1 ?_
            refine s1 61 504 1 rfl rfl rfl rfl rfl rfl (by first | trivial | omega | (simp only [List.length_map, List.length_append, List.length_cons, List.length_nil] at *; omega)) ?_
            refine s0 512 2 rfl rfl rfl rfl rfl (by first | trivial | omega | (simp only [List.length_map, List.length_append, List.length_cons, List.length_nil] at *; omega)) ?_
            refine s1 5 520 3 rfl rfl rfl rfl rfl rfl trivial ?_
            refine e1 528 rfl ?_
            refine keep [4, 5] rfl ?_
            refine W_ret ?_
            exact outN (SV.tup [rollS (join a b).1, SV.i (join a b).2]) (π := []) (hout := []) Try.results5 rfl (by trivial) (by rw [join_ok hA hB hc12]; rfl) rfl rfl trivial ⟨rfl, rfl⟩
        · skip
          try simp only [decide_eq_true_eq, decide_eq_false_iff_not, Bool.not_eq_true', Bool.not_eq_false', beq_iff_eq, bne_iff_ne, beq_eq_false_iff_ne, Bool.and_eq_true, Bool.or_eq_true, Bool.and_eq_false_iff, Bool.or_eq_false_iff, ge_iff_le, gt_iff_lt, Int.not_lt, Int.not_le, ne_eq, Decidable.not_not, bne_eq_false_iff_eq] at hc7
          refine W_skip ?_
          refine tn ?_
          refine torows 280 2 (intsF [a.lo, a.hi]) rfl (by decide) (Nat.le_refl _) (fun i c hi hc => by have hc1 : c < 1 := hc; obtain rfl : c = 0 := (by omega); match i, hi with | 0, _ => rfl | 1, _ => rfl) ?_
          refine freeze 7 280 2 rfl rfl (Nat.le_refl _) ?_
          refine r1 ?_
          refine s1 49 320 1 rfl rfl rfl rfl rfl rfl trivial ?_
          refine c1 (rollOf_any [a.lo, a.hi] (by simp) (fold_in (l := [a.lo, a.hi]) (by simp) (fun j hj => by have := may_out hA; have := may_out hB; match j, hj with | 0, _ => (simp; omega) | 1, _ => (simp; omega)))) [] [] 50 328 2 rfl rfl rfl rfl rfl rfl rfl rfl Try.func9 rfl rfl rfl rfl trivial rfl rfl ?_
          refine s1 8 336 3 rfl rfl rfl rfl rfl rfl trivial ?_
          refine s0 344 4 rfl rfl rfl rfl rfl (by first | trivial | omega | (simp only [List.length_map, List.length_append, List.length_cons, List.length_nil] at *; omega)) ?_
          refine e1 352 rfl ?_
          refine keep [4, 6, 8] rfl ?_
          refine r1 ?_
          refine s1 51 352 1 rfl rfl rfl rfl rfl rfl trivial ?_
          refine s1 52 360 2 rfl rfl rfl rfl rfl rfl (by first | trivial | omega | (simp only [List.length_map, List.length_append, List.length_cons, List.length_nil] at *; omega)) ?_
          refine s1 53 368 3 rfl rfl rfl rfl rfl rfl trivial ?_
          refine s0 376 4 rfl rfl rfl rfl rfl (by first | trivial | omega | (simp only [List.length_map, List.length_append, List.length_cons, List.length_nil] at *; omega)) ?_
          refine e1 384 rfl ?_
          refine keep [4, 6, 8] rfl ?_
          refine r1 ?_
          refine s1 54 384 1 rfl rfl rfl rfl rfl rfl trivial ?_
          refine s1 55 392 2 rfl rfl rfl rfl rfl rfl (by first | trivial | omega | (simp only [List.length_map, List.length_append, List.length_cons, List.length_nil] at *; omega)) ?_
          refine s1 56 400 3 rfl rfl rfl rfl rfl rfl trivial ?_
          refine s0 408 4 rfl rfl rfl rfl rfl (by first | trivial | omega | (simp only [List.length_map, List.length_append, List.length_cons, List.length_nil] at *; omega)) ?_
          refine e1 416 rfl ?_
          refine keep [4, 6] rfl ?_
          refine W_seq ?_
          refine chval 184 (rollBlk (joined a b)) rfl (blk_eq (by have h1 := may_out hA; have h2 := may_out hB; simp [joined, foldTo, stepR] <;> (repeat' split) <;> (try dsimp only) <;> omega) (by have h1 := may_out hA; have h2 := may_out hB; simp [joined, foldTo, stepR] <;> (repeat' split) <;> (try dsimp only) <;> omega) (by have h1 := may_out hA; have h2 := may_out hB; simp [joined, foldTo, stepR] <;> (repeat' split) <;> (try dsimp only) <;> omega) (by have h1 := may_out hA; have h2 := may_out hB; simp [joined, foldTo, stepR] <;> (repeat' split) <;> (try dsimp only) <;> omega)) ?_
          refine r1 ?_
          refine s1 57 416 1 rfl rfl rfl rfl rfl rfl (by first | trivial | omega | (simp only [List.length_map, List.length_append, List.length_cons, List.length_nil] at *; omega)) ?_
          refine c1 (refMay_any (joined a b)) [] [] 58 424 2 rfl rfl rfl rfl rfl rfl rfl rfl Try.func8 rfl rfl rfl rfl trivial rfl rfl ?_
          refine s1 59 432 3 rfl rfl rfl rfl rfl rfl trivial ?_
          refine e1 440 rfl ?_
          refine keep [4, 6, 59] rfl ?_
          refine q1 rfl (fun hc12 => ?_) (fun hc12 => ?_)
          · skip
            try simp only [decide_eq_true_eq, decide_eq_false_iff_not, Bool.not_eq_true', Bool.not_eq_false', beq_iff_eq, bne_iff_ne, beq_eq_false_iff_ne, Bool.and_eq_true, Bool.or_eq_true, Bool.and_eq_false_iff, Bool.or_eq_false_iff, ge_iff_le, gt_iff_lt, Int.not_lt, Int.not_le, ne_eq, Decidable.not_not, bne_eq_false_iff_eq] at hc12
            refine r1 ?_
            refine s1 60 440 1 rfl rfl rfl rfl rfl rfl trivial ?_
            refine s0 448 2 rfl rfl rfl rfl rfl (by first | trivial | omega | (simp only [List.length_map, List.length_append, List.length_cons, List.length_nil] at *; omega)) ?_
            refine s1 5 456 3 rfl rfl rfl rfl rfl rfl trivial ?_
            refine e1 464 rfl ?_
            refine keep [4, 5] rfl ?_
            refine W_ret ?_
            refine tr ?_
            exact outN (SV.tup [rollS (join a b).1, SV.i (join a b).2]) (π := []) (hout := []) Try.results5 rfl (by trivial) (by rw [join_over hA hB hc12]; rfl) rfl rfl trivial ⟨rfl, rfl⟩
          · skip
            try simp only [decide_eq_true_eq, decide_eq_false_iff_not, Bool.not_eq_true', Bool.not_eq_false', beq_iff_eq, bne_iff_ne, beq_eq_false_iff_ne, Bool.and_eq_true, Bool.or_eq_true, Bool.and_eq_false_iff, Bool.or_eq_false_iff, ge_iff_le, gt_iff_lt, Int.not_lt, Int.not_le, ne_eq, Decidable.not_not, bne_eq_false_iff_eq] at hc12
            refine W_skip ?_
            refine tn ?_
            refine r1 ?_
            refine s1 61 440 1 rfl rfl rfl rfl rfl rfl (by first | trivial | omega | (simp only [List.length_map, List.length_append, List.length_cons, List.length_nil] at *; omega)) ?_
            refine s0 448 2 rfl rfl rfl rfl rfl (by first | trivial | omega | (simp only [List.length_map, List.length_append, List.length_cons, List.length_nil] at *; omega)) ?_
            refine s1 5 456 3 rfl rfl rfl rfl rfl rfl trivial ?_
            refine e1 464 rfl ?_
            refine keep [4, 5] rfl ?_
            refine W_ret ?_
            exact outN (SV.tup [rollS (join a b).1, SV.i (join a b).2]) (π := []) (hout := []) Try.results5 rfl (by trivial) (by rw [join_ok hA hB hc12]; rfl) rfl rfl trivial ⟨rfl, rfl⟩
      · skip
        try simp only [decide_eq_true_eq, decide_eq_false_iff_not, Bool.not_eq_true', Bool.not_eq_false', beq_iff_eq, bne_iff_ne, beq_eq_false_iff_ne, Bool.and_eq_true, Bool.or_eq_true, Bool.and_eq_false_iff, Bool.or_eq_false_iff, ge_iff_le, gt_iff_lt, Int.not_lt, Int.not_le, ne_eq, Decidable.not_not, bne_eq_false_iff_eq] at hc5
        refine W_skip ?_
        refine tn ?_
        refine W_seq ?_
        refine r1 ?_
        refine s1 39 232 1 rfl rfl rfl rfl rfl rfl trivial ?_
        refine s1 40 240 2 rfl rfl rfl rfl rfl rfl (by first | trivial | omega | (simp only [List.length_map, List.length_append, List.length_cons, List.length_nil] at *; omega)) ?_
        refine s1 41 248 3 rfl rfl rfl rfl rfl rfl (by first | trivial | omega | (simp only [List.length_map, List.length_append, List.length_cons, List.length_nil] at *; omega)) ?_
        refine e1 256 rfl ?_
        refine keep [3, 4, 6, 7, 41] rfl ?_
        refine q1 rfl (fun hc7 => ?_) (fun hc7 => ?_)
        · skip
          try simp only [decide_eq_true_eq, decide_eq_false_iff_not, Bool.not_eq_true', Bool.not_eq_false', beq_iff_eq, bne_iff_ne, beq_eq_false_iff_ne, Bool.and_eq_true, Bool.or_eq_true, Bool.and_eq_false_iff, Bool.or_eq_false_iff, ge_iff_le, gt_iff_lt, Int.not_lt, Int.not_le, ne_eq, Decidable.not_not, bne_eq_false_iff_eq] at hc7
          refine r0 ?_
          refine s1 42 256 1 rfl rfl rfl rfl rfl rfl trivial ?_
          refine s1 43 264 2 rfl rfl rfl rfl rfl rfl trivial ?_
          refine s1 44 272 3 rfl rfl rfl rfl rfl rfl (by first | trivial | omega | (simp only [List.length_map, List.length_append, List.length_cons, List.length_nil] at *; omega)) ?_
          refine s1 45 280 4 rfl rfl rfl rfl rfl rfl trivial ?_
          refine s1 46 288 5 rfl rfl rfl rfl rfl rfl (by first | trivial | omega | (simp only [List.length_map, List.length_append, List.length_cons, List.length_nil] at *; omega)) ?_
          refine s1 47 296 6 rfl rfl rfl rfl rfl rfl trivial ?_
          refine s1 48 304 7 rfl rfl rfl rfl rfl rfl (by first | trivial | omega | (simp only [List.length_map, List.length_append, List.length_cons, List.length_nil] at *; omega)) ?_
          refine s1 7 312 8 rfl rfl rfl rfl rfl rfl trivial ?_
          refine e1 320 rfl ?_
          refine tn ?_
          refine torows 304 2 (intsF [b.lo, b.hi]) rfl (by decide) (Nat.le_refl _) (fun i c hi hc => by have hc1 : c < 1 := hc; obtain rfl : c = 0 := (by omega); match i, hi with | 0, _ => rfl | 1, _ => rfl) ?_
          refine freeze 7 304 2 rfl rfl (Nat.le_refl _) ?_
          refine r1 ?_
          refine s1 49 320 1 rfl rfl rfl rfl rfl rfl trivial ?_
          refine c1 (rollOf_any [b.lo, b.hi] (by simp) (fold_in (l := [b.lo, b.hi]) (by simp) (fun j hj => by have := may_out hA; have := may_out hB; match j, hj with | 0, _ => (simp; omega) | 1, _ => (simp; omega)))) [] [] 50 328 2 rfl rfl rfl rfl rfl rfl rfl rfl Try.func9 rfl rfl rfl rfl trivial rfl rfl ?_
          refine s1 8 336 3 rfl rfl rfl rfl rfl rfl trivial ?_
          refine s0 344 4 rfl rfl rfl rfl rfl (by first | trivial | omega | (simp only [List.length_map, List.length_append, List.length_cons, List.length_nil] at *; omega)) ?_
          refine e1 352 rfl ?_
          refine keep [4, 6, 8] rfl ?_
          refine r1 ?_
          refine s1 51 352 1 rfl rfl rfl rfl rfl rfl trivial ?_
          refine s1 52 360 2 rfl rfl rfl rfl rfl rfl (by first | trivial | omega | (simp only [List.length_map, List.length_append, List.length_cons, List.length_nil] at *; omega)) ?_
          refine s1 53 368 3 rfl rfl rfl rfl rfl rfl trivial ?_
          refine s0 376 4 rfl rfl rfl rfl rfl (by first | trivial | omega | (simp only [List.length_map, List.length_append, List.length_cons, List.length_nil] at *; omega)) ?_
          refine e1 384 rfl ?_
          refine keep [4, 6, 8] rfl ?_
          refine r1 ?_
          refine s1 54 384 1 rfl rfl rfl rfl rfl rfl trivial ?_
          refine s1 55 392 2 rfl rfl rfl rfl rfl rfl (by first | trivial | omega | (simp only [List.length_map, List.length_append, List.length_cons, List.length_nil] at *; omega)) ?_
          refine s1 56 400 3 rfl rfl rfl rfl rfl rfl trivial ?_
          refine s0 408 4 rfl rfl rfl rfl rfl (by first | trivial | omega | (simp only [List.length_map, List.length_append, List.length_cons, List.length_nil] at *; omega)) ?_
          refine e1 416 rfl ?_
          refine keep [4, 6] rfl ?_
          refine W_seq ?_
          refine chval 184 (rollBlk (joined a b)) rfl (blk_eq (by have h1 := may_out hA; have h2 := may_out hB; simp [joined, foldTo, stepR] <;> (repeat' split) <;> (try dsimp only) <;> omega) (by have h1 := may_out hA; have h2 := may_out hB; simp [joined, foldTo, stepR] <;> (repeat' split) <;> (try dsimp only) <;> omega) (by have h1 := may_out hA; have h2 := may_out hB; simp [joined, foldTo, stepR] <;> (repeat' split) <;> (try dsimp only) <;> omega) (by have h1 := may_out hA; have h2 := may_out hB; simp [joined, foldTo, stepR] <;> (repeat' split) <;> (try dsimp only) <;> omega)) ?_
          refine r1 ?_
          refine s1 57 416 1 rfl rfl rfl rfl rfl rfl (by first | trivial | omega | (simp only [List.length_map, List.length_append, List.length_cons, List.length_nil] at *; omega)) ?_
          refine c1 (refMay_any (joined a b)) [] [] 58 424 2 rfl rfl rfl rfl rfl rfl rfl rfl Try.func8 rfl rfl rfl rfl trivial rfl rfl ?_
          refine s1 59 432 3 rfl rfl rfl rfl rfl rfl trivial ?_
          refine e1 440 rfl ?_
          refine keep [4, 6, 59] rfl ?_
          refine q1 rfl (fun hc12 => ?_) (fun hc12 => ?_)
          · skip
            try simp only [decide_eq_true_eq, decide_eq_false_iff_not, Bool.not_eq_true', Bool.not_eq_false', beq_iff_eq, bne_iff_ne, beq_eq_false_iff_ne, Bool.and_eq_true, Bool.or_eq_true, Bool.and_eq_false_iff, Bool.or_eq_false_iff, ge_iff_le, gt_iff_lt, Int.not_lt, Int.not_le, ne_eq, Decidable.not_not, bne_eq_false_iff_eq] at hc12
            refine r1 ?_
            refine s1 60 440 1 rfl rfl rfl rfl rfl rfl trivial ?_
            refine s0 448 2 rfl rfl rfl rfl rfl (by first | trivial | omega | (simp only [List.length_map, List.length_append, List.length_cons, List.length_nil] at *; omega)) ?_
            refine s1 5 456 3 rfl rfl rfl rfl rfl rfl trivial ?_
            refine e1 464 rfl ?_
            refine keep [4, 5] rfl ?_
            refine W_ret ?_
            refine tr ?_
            exact outN (SV.tup [rollS (join a b).1, SV.i (join a b).2]) (π := []) (hout := []) Try.results5 rfl (by trivial) (by rw [join_over hA hB hc12]; rfl) rfl rfl trivial ⟨rfl, rfl⟩
          · skip
            try simp only [decide_eq_true_eq, decide_eq_false_iff_not, Bool.not_eq_true', Bool.not_eq_false', beq_iff_eq, bne_iff_ne, beq_eq_false_iff_ne, Bool.and_eq_true, Bool.or_eq_true, Bool.and_eq_false_iff, Bool.or_eq_false_iff, ge_iff_le, gt_iff_lt, Int.not_lt, Int.not_le, ne_eq, Decidable.not_not, bne_eq_false_iff_eq] at hc12
            refine W_skip ?_
            refine tn ?_
            refine r1 ?_
            refine s1 61 440 1 rfl rfl rfl rfl rfl rfl (by first | trivial | omega | (simp only [List.length_map, List.length_append, List.length_cons, List.length_nil] at *; omega)) ?_
            refine s0 448 2 rfl rfl rfl rfl rfl (by first | trivial | omega | (simp only [List.length_map, List.length_append, List.length_cons, List.length_nil] at *; omega)) ?_
            refine s1 5 456 3 rfl rfl rfl rfl rfl rfl trivial ?_
            refine e1 464 rfl ?_
            refine keep [4, 5] rfl ?_
            refine W_ret ?_
            exact outN (SV.tup [rollS (join a b).1, SV.i (join a b).2]) (π := []) (hout := []) Try.results5 rfl (by trivial) (by rw [join_ok hA hB hc12]; rfl) rfl rfl trivial ⟨rfl, rfl⟩
        · skip
          try simp only [decide_eq_true_eq, decide_eq_false_iff_not, Bool.not_eq_true', Bool.not_eq_false', beq_iff_eq, bne_iff_ne, beq_eq_false_iff_ne, Bool.and_eq_true, Bool.or_eq_true, Bool.and_eq_false_iff, Bool.or_eq_false_iff, ge_iff_le, gt_iff_lt, Int.not_lt, Int.not_le, ne_eq, Decidable.not_not, bne_eq_false_iff_eq] at hc7
          refine W_skip ?_
          refine tn ?_
          refine ghostly 7 3 1 (intsF []) rfl ?_
          refine freeze 7 256 0 rfl rfl (Nat.le_refl _) ?_
          refine r1 ?_
          refine s1 49 264 1 rfl rfl rfl rfl rfl rfl trivial ?_
          refine c1 (rollOf_any [] (by simp) (fold_in (l := []) (by simp) (fun j hj => by have := may_out hA; have := may_out hB; match j, hj with | j, hj => (simp at hj)))) [] [] 50 272 2 rfl rfl rfl rfl rfl rfl rfl rfl Try.func9 rfl rfl rfl rfl trivial rfl rfl ?_
          refine s1 8 280 3 rfl rfl rfl rfl rfl rfl trivial ?_
          refine s0 288 4 rfl rfl rfl rfl rfl (by first | trivial | omega | (simp only [List.length_map, List.length_append, List.length_cons, List.length_nil] at *; omega)) ?_
          refine e1 296 rfl ?_
          refine keep [4, 6, 8] rfl ?_
          refine r1 ?_
          refine s1 51 296 1 rfl rfl rfl rfl rfl rfl trivial ?_
          refine s1 52 304 2 rfl rfl rfl rfl rfl rfl (by first | trivial | omega | (simp only [List.length_map, List.length_append, List.length_cons, List.length_nil] at *; omega)) ?_
          refine s1 53 312 3 rfl rfl rfl rfl rfl rfl trivial ?_
          refine s0 320 4 rfl rfl rfl rfl rfl (by first | trivial | omega | (simp only [List.length_map, List.length_append, List.length_cons, List.length_nil] at *; omega)) ?_
          refine e1 328 rfl ?_
          refine keep [4, 6, 8] rfl ?_
          refine r1 ?_
          refine s1 54 328 1 rfl rfl rfl rfl rfl rfl trivial ?_
          refine s1 55 336 2 rfl rfl rfl rfl rfl rfl (by first | trivial | omega | (simp only [List.length_map, List.length_append, List.length_cons, List.length_nil] at *; omega)) ?_
          refine s1 56 344 3 rfl rfl rfl rfl rfl rfl trivial ?_
          refine s0 352 4 rfl rfl rfl rfl rfl (by first | trivial | omega | (simp only [List.length_map, List.length_append, List.length_cons, List.length_nil] at *; omega)) ?_
          refine e1 360 rfl ?_
          refine keep [4, 6] rfl ?_
          refine W_seq ?_
          refine chval 184 (rollBlk (joined a b)) rfl (blk_eq (by have h1 := may_out hA; have h2 := may_out hB; simp [joined, foldTo, stepR] <;> (repeat' split) <;> (try dsimp only) <;> omega) (by have h1 := may_out hA; have h2 := may_out hB; simp [joined, foldTo, stepR] <;> (repeat' split) <;> (try dsimp only) <;> omega) (by have h1 := may_out hA; have h2 := may_out hB; simp [joined, foldTo, stepR] <;> (repeat' split) <;> (try dsimp only) <;> omega) (by have h1 := may_out hA; have h2 := may_out hB; simp [joined, foldTo, stepR] <;> (repeat' split) <;> (try dsimp only) <;> omega)) ?_
          refine r1 ?_
          refine s1 57 360 1 rfl rfl rfl rfl rfl rfl (by first | trivial | omega | (simp only [List.length_map, List.length_append, List.length_cons, List.length_nil] at *; omega)) ?_
          refine c1 (refMay_any (joined a b)) [] [] 58 368 2 rfl rfl rfl rfl rfl rfl rfl rfl Try.func8 rfl rfl rfl rfl trivial rfl rfl ?_
          refine s1 59 376 3 rfl rfl rfl rfl rfl rfl trivial ?_
          refine e1 384 rfl ?_
          refine keep [4, 6, 59] rfl ?_
          refine q1 rfl (fun hc12 => ?_) (fun hc12 => ?_)
          · skip
            try simp only [decide_eq_true_eq, decide_eq_false_iff_not, Bool.not_eq_true', Bool.not_eq_false', beq_iff_eq, bne_iff_ne, beq_eq_false_iff_ne, Bool.and_eq_true, Bool.or_eq_true, Bool.and_eq_false_iff, Bool.or_eq_false_iff, ge_iff_le, gt_iff_lt, Int.not_lt, Int.not_le, ne_eq, Decidable.not_not, bne_eq_false_iff_eq] at hc12
            refine r1 ?_
            refine s1 60 384 1 rfl rfl rfl rfl rfl rfl trivial ?_
            refine s0 392 2 rfl rfl rfl rfl rfl (by first | trivial | omega | (simp only [List.length_map, List.length_append, List.length_cons, List.length_nil] at *; omega)) ?_
            refine s1 5 400 3 rfl rfl rfl rfl rfl rfl trivial ?_
            refine e1 408 rfl ?_
            refine keep [4, 5] rfl ?_
            refine W_ret ?_
            refine tr ?_
            exact outN (SV.tup [rollS (join a b).1, SV.i (join a b).2]) (π := []) (hout := []) Try.results5 rfl (by trivial) (by rw [join_over hA hB hc12]; rfl) rfl rfl trivial ⟨rfl, rfl⟩
          · skip
            try simp only [decide_eq_true_eq, decide_eq_false_iff_not, Bool.not_eq_true', Bool.not_eq_false', beq_iff_eq, bne_iff_ne, beq_eq_false_iff_ne, Bool.and_eq_true, Bool.or_eq_true, Bool.and_eq_false_iff, Bool.or_eq_false_iff, ge_iff_le, gt_iff_lt, Int.not_lt, Int.not_le, ne_eq, Decidable.not_not, bne_eq_false_iff_eq] at hc12
            refine W_skip ?_
            refine tn ?_
            refine r1 ?_
            refine s1 61 384 1 rfl rfl rfl rfl rfl rfl (by first | trivial | omega | (simp only [List.length_map, List.length_append, List.length_cons, List.length_nil] at *; omega)) ?_
            refine s0 392 2 rfl rfl rfl rfl rfl (by first | trivial | omega | (simp only [List.length_map, List.length_append, List.length_cons, List.length_nil] at *; omega)) ?_
            refine s1 5 400 3 rfl rfl rfl rfl rfl rfl trivial ?_
            refine e1 408 rfl ?_
            refine keep [4, 5] rfl ?_
            refine W_ret ?_
            exact outN (SV.tup [rollS (join a b).1, SV.i (join a b).2]) (π := []) (hout := []) Try.results5 rfl (by trivial) (by rw [join_ok hA hB hc12]; rfl) rfl rfl trivial ⟨rfl, rfl⟩

theorem law_any (a b : Roll) : Spec Try.prog G0 3 [rollS a, rollS b] [] (fun r _ => r = SV.b true) := by
  refine start 29 0 Try.func3 rfl rfl rfl rfl ?_
  refine r1 ?_
  refine s1 2 0 1 rfl rfl rfl rfl rfl rfl trivial ?_
  refine s1 3 8 2 rfl rfl rfl rfl rfl rfl trivial ?_
  refine s1 4 16 3 rfl rfl rfl rfl rfl rfl trivial ?_
  refine e1 24 rfl ?_
  refine keep [2, 3] rfl ?_
  refine r1 ?_
  refine s1 10 24 1 rfl rfl rfl rfl rfl rfl (by first | trivial | omega | (simp only [List.length_map, List.length_append, List.length_cons, List.length_nil] at *; omega)) ?_
  refine s1 11 32 2 rfl rfl rfl rfl rfl rfl (by first | trivial | omega | (simp only [List.length_map, List.length_append, List.length_cons, List.length_nil] at *; omega)) ?_
  refine c1 (join_any a b) [] [] 12 40 3 rfl rfl rfl rfl rfl rfl rfl rfl Try.func4 rfl rfl rfl rfl trivial rfl rfl ?_
  refine s1 9 48 4 rfl rfl rfl rfl rfl rfl trivial ?_
  refine s1 13 56 5 rfl rfl rfl rfl rfl rfl trivial ?_
  refine s1 14 64 6 rfl rfl rfl rfl rfl rfl trivial ?_
  refine s1 5 72 7 rfl rfl rfl rfl rfl rfl trivial ?_
  refine s0 80 8 rfl rfl rfl rfl rfl (by first | trivial | omega | (simp only [List.length_map, List.length_append, List.length_cons, List.length_nil] at *; omega)) ?_
  refine s1 6 88 9 rfl rfl rfl rfl rfl rfl trivial ?_
  refine e1 96 rfl ?_
  refine keep [2, 3, 5, 6] rfl ?_
  refine r1 ?_
  refine s1 16 96 1 rfl rfl rfl rfl rfl rfl (by first | trivial | omega | (simp only [List.length_map, List.length_append, List.length_cons, List.length_nil] at *; omega)) ?_
  refine s1 17 104 2 rfl rfl rfl rfl rfl rfl (by first | trivial | omega | (simp only [List.length_map, List.length_append, List.length_cons, List.length_nil] at *; omega)) ?_
  refine c1 (refJoin_any a b) [] [] 18 112 3 rfl rfl rfl rfl rfl rfl rfl rfl Try.func5 rfl rfl rfl rfl trivial rfl rfl ?_
  refine s1 15 120 4 rfl rfl rfl rfl rfl rfl trivial ?_
  refine s1 19 128 5 rfl rfl rfl rfl rfl rfl trivial ?_
  refine s1 20 136 6 rfl rfl rfl rfl rfl rfl trivial ?_
  refine s1 7 144 7 rfl rfl rfl rfl rfl rfl trivial ?_
  refine s0 152 8 rfl rfl rfl rfl rfl (by first | trivial | omega | (simp only [List.length_map, List.length_append, List.length_cons, List.length_nil] at *; omega)) ?_
  refine s1 8 160 9 rfl rfl rfl rfl rfl rfl trivial ?_
  refine e1 168 rfl ?_
  refine keep [5, 6, 7, 8] rfl ?_
  refine r1 ?_
  refine s1 21 168 1 rfl rfl rfl rfl rfl rfl (by first | trivial | omega | (simp only [List.length_map, List.length_append, List.length_cons, List.length_nil] at *; omega)) ?_
  refine s1 22 176 2 rfl rfl rfl rfl rfl rfl (by first | trivial | omega | (simp only [List.length_map, List.length_append, List.length_cons, List.length_nil] at *; omega)) ?_
  refine sEq (op := .eql) 23 184 3 rfl rfl rfl rfl rfl rfl rfl rfl rfl (by kernel_rfl) (by kernel_rfl) rfl (.inl ⟨rfl, rfl⟩) ?_
  refine s1 24 192 4 rfl rfl rfl rfl rfl rfl trivial ?_
  refine ask 24 rfl (fun hg3_24 => ?_) (fun hg3_24 => ?_)
  · skip
    try simp only [decide_eq_true_eq, decide_eq_false_iff_not, Bool.not_eq_true', Bool.not_eq_false', beq_iff_eq, bne_iff_ne, beq_eq_false_iff_ne, Bool.and_eq_true, Bool.or_eq_true, Bool.and_eq_false_iff, Bool.or_eq_false_iff, ge_iff_le, gt_iff_lt, Int.not_lt, Int.not_le, ne_eq, Decidable.not_not, bne_eq_false_iff_eq] at hg3_24
    refine g1 3 true 24 25 5 rfl rfl rfl rfl rfl ?_
    refine s1 25 200 5 rfl rfl rfl rfl rfl rfl trivial ?_
    refine g1 3 true 24 26 6 rfl rfl rfl rfl rfl ?_
    refine s1 26 208 6 rfl rfl rfl rfl rfl rfl trivial ?_
    refine g1 3 true 24 27 7 rfl rfl rfl rfl rfl ?_
    refine s1 27 216 7 rfl rfl rfl rfl rfl rfl (by first | trivial | omega | (simp only [List.length_map, List.length_append, List.length_cons, List.length_nil] at *; omega)) ?_
    refine s1 28 224 8 rfl rfl rfl rfl rfl rfl trivial ?_
    refine s1 4 232 9 rfl rfl rfl rfl rfl rfl trivial ?_
    refine e1 240 rfl ?_
    refine keep [4] rfl ?_
    refine W_ret ?_
    exact out1 4 (SV.b true) (π := []) (hout := []) Try.results3 rfl (by first | (simp; done) | (simp; rfl) | (simp at *; done)) rfl rfl trivial rfl
  · skip
    try simp only [decide_eq_true_eq, decide_eq_false_iff_not, Bool.not_eq_true', Bool.not_eq_false', beq_iff_eq, bne_iff_ne, beq_eq_false_iff_ne, Bool.and_eq_true, Bool.or_eq_true, Bool.and_eq_false_iff, Bool.or_eq_false_iff, ge_iff_le, gt_iff_lt, Int.not_lt, Int.not_le, ne_eq, Decidable.not_not, bne_eq_false_iff_eq] at hg3_24
    refine g0 3 true 24 25 5 rfl rfl rfl rfl rfl rfl ?_
    refine g0 3 true 24 26 6 rfl rfl rfl rfl rfl rfl ?_
    refine g0 3 true 24 27 7 rfl rfl rfl rfl rfl rfl ?_
    refine s1 28 224 8 rfl rfl rfl rfl rfl rfl trivial ?_
    refine s1 4 232 9 rfl rfl rfl rfl rfl rfl trivial ?_
    refine e1 240 rfl ?_
    refine keep [4] rfl ?_
    refine W_ret ?_
    exact out1 4 (SV.b true) (π := []) (hout := []) Try.results3 rfl (by first | (simp; done) | (simp; rfl) | (simp at *; done)) rfl rfl trivial rfl

end Go.Proofs.Ytiedndnegmbkiaa.Nice
