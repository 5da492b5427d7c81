/- The histories that may be: the program's May and the document's. -/
import Derived.Test.YtdjphneoecebmaaProg
import Derived.Test.YtdjphneoecebmaaNiceM
namespace Go.Proofs.Ytdjphneoecebmaa.Nice
open Go
set_option linter.unusedVariables false
set_option linter.unusedSimpArgs false
set_option maxRecDepth 100000
def G0 : Nat → SV := fun _ => .any
structure Act where
  b : Int
  e : Int
  p : Bool
  v : Int
  y : Int
  deriving Inhabited
def actC (a : Act) : Nat → D
  | 0 => .val (.int .i64 a.b)
  | 1 => .val (.int .i64 a.e)
  | 2 => .val (.bool a.p)
  | 3 => .val (.int .i64 a.v)
  | 4 => .val (.int .i64 a.y)
  | _ => .any
def actF (l : List Act) : Nat → Nat → D := fun i c => actC (l.getD i default) c
def actsV (l : List Act) : SV := .d (.vec 5 l.length (actF l))
def actS (a : Act) : SV := .agg [.d (actC a 0), .d (actC a 1), .d (actC a 2), .d (actC a 3), .d (actC a 4)]
def inB (n lo hi : Int) : Bool := decide (lo ≤ n) && decide (n ≤ hi)
def heldB (k : Int) : Bool := decide (k = 3) || decide (k = 4)
def oddB (k : Int) (a : Act) : Bool := !inB a.b 0 1048576 || (!decide (a.e = -1) && !inB a.e a.b 1048576) || (!decide (a.y = 0) && (!decide (k = 2) || !a.p)) || (heldB k && decide (a.v < 0) && (a.p || !decide (a.v = -1)))
def idx (l : List Act) (p : Act → Bool) : Int := match l.findIdx? p with | some i => i | none => -1
def mayB (k : Int) (l : List Act) : Bool := inB k 1 4 && decide (l.length ≤ 9) && !l.any (oddB k)

theorem in_any (n lo hi : Int) : Spec Try.prog G0 9 [SV.i n, SV.i lo, SV.i hi] [] (fun r ho => r = SV.b (inB n lo hi) ∧ ho = []) := by
  refine start 15 0 Try.func9 rfl rfl rfl rfl ?_
  refine r1 ?_
  refine s1 6 0 1 rfl rfl rfl rfl rfl rfl trivial ?_
  refine e1 8 rfl ?_
  refine keep [0, 1, 2] rfl ?_
  refine r1 ?_
  refine s1 7 8 1 rfl rfl rfl rfl rfl rfl trivial ?_
  refine s1 8 16 2 rfl rfl rfl rfl rfl rfl trivial ?_
  refine s1 9 24 3 rfl rfl rfl rfl rfl rfl (by first | trivial | omega | (simp only [List.length_map, List.length_append, List.length_cons, List.length_nil] at *; omega)) ?_
  refine s1 10 32 4 rfl rfl rfl rfl rfl rfl trivial ?_
  refine ask 10 rfl (fun hg1_10 => ?_) (fun hg1_10 => ?_)
  · skip
    try simp only [decide_eq_true_eq, decide_eq_false_iff_not, Bool.not_eq_true', Bool.not_eq_false', beq_iff_eq, bne_iff_ne, beq_eq_false_iff_ne, Bool.and_eq_true, Bool.or_eq_true, Bool.and_eq_false_iff, Bool.or_eq_false_iff, ge_iff_le, gt_iff_lt, Int.not_lt, Int.not_le, ne_eq, Decidable.not_not, bne_eq_false_iff_eq] at hg1_10
    refine g1 3 true 10 11 5 rfl rfl rfl rfl rfl ?_
    refine s1 11 40 5 rfl rfl rfl rfl rfl rfl trivial ?_
    refine g1 3 true 10 12 6 rfl rfl rfl rfl rfl ?_
    refine s1 12 48 6 rfl rfl rfl rfl rfl rfl trivial ?_
    refine g1 3 true 10 13 7 rfl rfl rfl rfl rfl ?_
    refine s1 13 56 7 rfl rfl rfl rfl rfl rfl (by first | trivial | omega | (simp only [List.length_map, List.length_append, List.length_cons, List.length_nil] at *; omega)) ?_
    refine s1 14 64 8 rfl rfl rfl rfl rfl rfl trivial ?_
    refine s1 6 72 9 rfl rfl rfl rfl rfl rfl trivial ?_
    refine e1 80 rfl ?_
    refine keep [6] rfl ?_
    refine W_ret ?_
    exact out1 6 (SV.b (inB n lo hi)) (π := []) (hout := []) Try.results9 rfl (by show SV.b _ = SV.b _; refine congrArg SV.b (Bool.eq_iff_iff.2 ?_); first | (simp [inB, *]; done) | (simp [inB, *]; omega) | (simp [inB]; omega)) rfl rfl trivial ⟨rfl, rfl⟩
  · skip
    try simp only [decide_eq_true_eq, decide_eq_false_iff_not, Bool.not_eq_true', Bool.not_eq_false', beq_iff_eq, bne_iff_ne, beq_eq_false_iff_ne, Bool.and_eq_true, Bool.or_eq_true, Bool.and_eq_false_iff, Bool.or_eq_false_iff, ge_iff_le, gt_iff_lt, Int.not_lt, Int.not_le, ne_eq, Decidable.not_not, bne_eq_false_iff_eq] at hg1_10
    refine g0 3 true 10 11 5 rfl rfl rfl rfl rfl rfl ?_
    refine g0 3 true 10 12 6 rfl rfl rfl rfl rfl rfl ?_
    refine g0 3 true 10 13 7 rfl rfl rfl rfl rfl rfl ?_
    refine s1 14 64 8 rfl rfl rfl rfl rfl rfl trivial ?_
    refine s1 6 72 9 rfl rfl rfl rfl rfl rfl trivial ?_
    refine e1 80 rfl ?_
    refine keep [6] rfl ?_
    refine W_ret ?_
    exact out1 6 (SV.b (inB n lo hi)) (π := []) (hout := []) Try.results9 rfl (by show SV.b _ = SV.b _; refine congrArg SV.b (Bool.eq_iff_iff.2 ?_); first | (simp [inB, *]; done) | (simp [inB, *]; omega) | (simp [inB]; omega)) rfl rfl trivial ⟨rfl, rfl⟩

theorem held_any (k : Int) : Spec Try.prog G0 12 [SV.i k] [] (fun r ho => r = SV.b (heldB k) ∧ ho = []) := by
  refine start 9 0 Try.func12 rfl rfl rfl rfl ?_
  refine r1 ?_
  refine s1 2 0 1 rfl rfl rfl rfl rfl rfl trivial ?_
  refine e1 8 rfl ?_
  refine keep [0] rfl ?_
  refine r1 ?_
  refine s1 3 8 1 rfl rfl rfl rfl rfl rfl trivial ?_
  refine s1 4 16 2 rfl rfl rfl rfl rfl rfl (by first | trivial | omega | (simp only [List.length_map, List.length_append, List.length_cons, List.length_nil] at *; omega)) ?_
  refine s1 5 24 3 rfl rfl rfl rfl rfl rfl trivial ?_
  refine ask 5 rfl (fun hg1_5 => ?_) (fun hg1_5 => ?_)
  · skip
    try simp only [decide_eq_true_eq, decide_eq_false_iff_not, Bool.not_eq_true', Bool.not_eq_false', beq_iff_eq, bne_iff_ne, beq_eq_false_iff_ne, Bool.and_eq_true, Bool.or_eq_true, Bool.and_eq_false_iff, Bool.or_eq_false_iff, ge_iff_le, gt_iff_lt, Int.not_lt, Int.not_le, ne_eq, Decidable.not_not, bne_eq_false_iff_eq] at hg1_5
    refine g0 2 false 5 6 4 rfl rfl rfl rfl rfl rfl ?_
    refine g0 2 false 5 7 5 rfl rfl rfl rfl rfl rfl ?_
    refine s1 8 48 6 rfl rfl rfl rfl rfl rfl trivial ?_
    refine s1 2 56 7 rfl rfl rfl rfl rfl rfl trivial ?_
    refine e1 64 rfl ?_
    refine keep [2] rfl ?_
    refine W_ret ?_
    exact out1 2 (SV.b (heldB k)) (π := []) (hout := []) Try.results12 rfl (by show SV.b _ = SV.b _; refine congrArg SV.b (Bool.eq_iff_iff.2 ?_); first | (simp [heldB, *]; done) | (simp [heldB, *]; omega) | (simp [heldB]; omega)) rfl rfl trivial ⟨rfl, rfl⟩
  · skip
    try simp only [decide_eq_true_eq, decide_eq_false_iff_not, Bool.not_eq_true', Bool.not_eq_false', beq_iff_eq, bne_iff_ne, beq_eq_false_iff_ne, Bool.and_eq_true, Bool.or_eq_true, Bool.and_eq_false_iff, Bool.or_eq_false_iff, ge_iff_le, gt_iff_lt, Int.not_lt, Int.not_le, ne_eq, Decidable.not_not, bne_eq_false_iff_eq] at hg1_5
    refine g1 2 false 5 6 4 rfl rfl rfl rfl rfl ?_
    refine s1 6 32 4 rfl rfl rfl rfl rfl rfl trivial ?_
    refine g1 2 false 5 7 5 rfl rfl rfl rfl rfl ?_
    refine s1 7 40 5 rfl rfl rfl rfl rfl rfl (by first | trivial | omega | (simp only [List.length_map, List.length_append, List.length_cons, List.length_nil] at *; omega)) ?_
    refine s1 8 48 6 rfl rfl rfl rfl rfl rfl trivial ?_
    refine s1 2 56 7 rfl rfl rfl rfl rfl rfl trivial ?_
    refine e1 64 rfl ?_
    refine keep [2] rfl ?_
    refine W_ret ?_
    exact out1 2 (SV.b (heldB k)) (π := []) (hout := []) Try.results12 rfl (by show SV.b _ = SV.b _; refine congrArg SV.b (Bool.eq_iff_iff.2 ?_); first | (simp [heldB, *]; done) | (simp [heldB, *]; omega) | (simp [heldB]; omega)) rfl rfl trivial ⟨rfl, rfl⟩

theorem odd_any (k : Int) (a : Act) : Spec Try.prog G0 11 [actS a, .ptr 0 0 0] [.cells 3 1 [SV.i k]] (fun r ho => r = SV.b (oddB k a) ∧ ho = [some (.cells 3 1 [SV.i k])]) := by
  refine start 53 1 Try.func11 rfl rfl rfl rfl ?_
  refine r1 ?_
  refine s1 2 1 1 rfl rfl rfl rfl rfl rfl trivial ?_
  refine s1 3 9 2 rfl rfl rfl rfl rfl rfl trivial ?_
  refine e1 17 rfl ?_
  refine keep [1, 2] rfl ?_
  refine r1 ?_
  refine s1 4 17 1 rfl rfl rfl rfl rfl rfl trivial ?_
  refine s1 5 25 2 rfl rfl rfl rfl rfl rfl (by first | trivial | omega | (simp only [List.length_map, List.length_append, List.length_cons, List.length_nil] at *; omega)) ?_
  refine c1 (in_any a.b 0 1048576) [] [] 6 33 3 rfl rfl rfl rfl rfl rfl rfl rfl Try.func9 rfl rfl rfl rfl trivial rfl rfl ?_
  refine s1 7 41 4 rfl rfl rfl rfl rfl rfl trivial ?_
  refine s1 8 49 5 rfl rfl rfl rfl rfl rfl trivial ?_
  refine joinB 12 17 20 (!inB a.b 0 1048576 || (!decide (a.e = -1) && !inB a.e a.b 1048576)) [1, 2, 8] [1, 2] rfl rfl rfl rfl ?_ (fun hj1_16 => ?_)
  · skip
    refine s1 21 153 18 rfl rfl rfl rfl rfl rfl trivial ?_
    refine ask 21 rfl (fun hg1_21 => ?_) (fun hg1_21 => ?_)
    · skip
      try simp only [decide_eq_true_eq, decide_eq_false_iff_not, Bool.not_eq_true', Bool.not_eq_false', beq_iff_eq, bne_iff_ne, beq_eq_false_iff_ne, Bool.and_eq_true, Bool.or_eq_true, Bool.and_eq_false_iff, Bool.or_eq_false_iff, ge_iff_le, gt_iff_lt, Int.not_lt, Int.not_le, ne_eq, Decidable.not_not, bne_eq_false_iff_eq] at hg1_21
      refine g0 17 false 21 22 19 rfl rfl rfl rfl rfl rfl ?_
      refine g0 17 false 21 23 20 rfl rfl rfl rfl rfl rfl ?_
      refine g0 17 false 21 24 21 rfl rfl rfl rfl rfl rfl ?_
      refine g0 17 false 21 25 22 rfl rfl rfl rfl rfl rfl ?_
      refine gz 21 true 25 26 23 rfl rfl rfl rfl rfl rfl ?_
      refine gz 21 true 25 27 24 rfl rfl rfl rfl rfl rfl ?_
      refine gz 21 true 25 28 25 rfl rfl rfl rfl rfl rfl ?_
      refine gz 24 false 28 29 26 rfl rfl rfl rfl rfl rfl ?_
      refine gz 24 false 28 30 27 rfl rfl rfl rfl rfl rfl ?_
      refine gz 24 false 28 31 28 rfl rfl rfl rfl rfl rfl ?_
      refine gz 21 true 25 32 29 rfl rfl rfl rfl rfl rfl ?_
      refine g0 17 false 21 33 30 rfl rfl rfl rfl rfl rfl ?_
      refine s1 34 257 31 rfl rfl rfl rfl rfl rfl trivial ?_
      refine s1 35 265 32 rfl rfl rfl rfl rfl rfl trivial ?_
      refine g0 31 false 35 36 33 rfl rfl rfl rfl rfl rfl ?_
      refine g0 31 false 35 37 34 rfl rfl rfl rfl rfl rfl ?_
      refine g0 31 false 35 38 35 rfl rfl rfl rfl rfl rfl ?_
      refine gz 34 true 38 39 36 rfl rfl rfl rfl rfl rfl ?_
      refine gz 34 true 38 40 37 rfl rfl rfl rfl rfl rfl ?_
      refine gz 34 true 38 41 38 rfl rfl rfl rfl rfl rfl ?_
      refine g0 31 false 35 42 39 rfl rfl rfl rfl rfl rfl ?_
      refine g0 31 false 35 43 40 rfl rfl rfl rfl rfl rfl ?_
      refine gz 39 true 43 44 41 rfl rfl rfl rfl rfl rfl ?_
      refine gz 39 true 43 45 42 rfl rfl rfl rfl rfl rfl ?_
      refine gz 39 true 43 46 43 rfl rfl rfl rfl rfl rfl ?_
      refine gz 42 false 46 47 44 rfl rfl rfl rfl rfl rfl ?_
      refine gz 42 false 46 48 45 rfl rfl rfl rfl rfl rfl ?_
      refine gz 42 false 46 49 46 rfl rfl rfl rfl rfl rfl ?_
      refine gz 39 true 43 50 47 rfl rfl rfl rfl rfl rfl ?_
      refine g0 31 false 35 51 48 rfl rfl rfl rfl rfl rfl ?_
      refine s1 52 401 49 rfl rfl rfl rfl rfl rfl trivial ?_
      refine s1 3 409 50 rfl rfl rfl rfl rfl rfl trivial ?_
      refine e1 417 rfl ?_
      refine keep [3] rfl ?_
      refine W_ret ?_
      exact out1 3 (SV.b (oddB k a)) (π := [0]) (hout := [some (.cells 3 1 [SV.i k])]) Try.results11 rfl (by show SV.b _ = SV.b _; refine congrArg SV.b (Bool.eq_iff_iff.2 ?_); cases hp : a.p <;> simp [oddB, inB, heldB, hp] at * <;> omega) rfl rfl ⟨rfl, trivial⟩ ⟨rfl, rfl⟩
    · skip
      try simp only [decide_eq_true_eq, decide_eq_false_iff_not, Bool.not_eq_true', Bool.not_eq_false', beq_iff_eq, bne_iff_ne, beq_eq_false_iff_ne, Bool.and_eq_true, Bool.or_eq_true, Bool.and_eq_false_iff, Bool.or_eq_false_iff, ge_iff_le, gt_iff_lt, Int.not_lt, Int.not_le, ne_eq, Decidable.not_not, bne_eq_false_iff_eq] at hg1_21
      refine g1 17 false 21 22 19 rfl rfl rfl rfl rfl ?_
      refine s1 22 161 19 rfl rfl rfl rfl rfl rfl trivial ?_
      refine g1 17 false 21 23 20 rfl rfl rfl rfl rfl ?_
      refine s1 23 169 20 rfl rfl rfl rfl rfl rfl (by first | trivial | omega | (simp only [List.length_map, List.length_append, List.length_cons, List.length_nil] at *; omega)) ?_
      refine g1 17 false 21 24 21 rfl rfl rfl rfl rfl ?_
      refine s1 24 177 21 rfl rfl rfl rfl rfl rfl (by first | trivial | omega | (simp only [List.length_map, List.length_append, List.length_cons, List.length_nil] at *; omega)) ?_
      refine g1 17 false 21 25 22 rfl rfl rfl rfl rfl ?_
      refine s1 25 185 22 rfl rfl rfl rfl rfl rfl trivial ?_
      refine joinB 8 30 33 (!decide (a.y = 0) && (!decide (k = 2) || !a.p)) [1, 2, 21, 25] [1, 2, 21] rfl rfl rfl rfl ?_ (fun hj1_29 => ?_)
      · skip
        refine s1 34 257 31 rfl rfl rfl rfl rfl rfl trivial ?_
        refine s1 35 265 32 rfl rfl rfl rfl rfl rfl trivial ?_
        refine ask 35 rfl (fun hg1_35 => ?_) (fun hg1_35 => ?_)
        · skip
          try simp only [decide_eq_true_eq, decide_eq_false_iff_not, Bool.not_eq_true', Bool.not_eq_false', beq_iff_eq, bne_iff_ne, beq_eq_false_iff_ne, Bool.and_eq_true, Bool.or_eq_true, Bool.and_eq_false_iff, Bool.or_eq_false_iff, ge_iff_le, gt_iff_lt, Int.not_lt, Int.not_le, ne_eq, Decidable.not_not, bne_eq_false_iff_eq] at hg1_35
          refine g0 31 false 35 36 33 rfl rfl rfl rfl rfl rfl ?_
          refine g0 31 false 35 37 34 rfl rfl rfl rfl rfl rfl ?_
          refine g0 31 false 35 38 35 rfl rfl rfl rfl rfl rfl ?_
          refine gz 34 true 38 39 36 rfl rfl rfl rfl rfl rfl ?_
          refine gz 34 true 38 40 37 rfl rfl rfl rfl rfl rfl ?_
          refine gz 34 true 38 41 38 rfl rfl rfl rfl rfl rfl ?_
          refine g0 31 false 35 42 39 rfl rfl rfl rfl rfl rfl ?_
          refine g0 31 false 35 43 40 rfl rfl rfl rfl rfl rfl ?_
          refine gz 39 true 43 44 41 rfl rfl rfl rfl rfl rfl ?_
          refine gz 39 true 43 45 42 rfl rfl rfl rfl rfl rfl ?_
          refine gz 39 true 43 46 43 rfl rfl rfl rfl rfl rfl ?_
          refine gz 42 false 46 47 44 rfl rfl rfl rfl rfl rfl ?_
          refine gz 42 false 46 48 45 rfl rfl rfl rfl rfl rfl ?_
          refine gz 42 false 46 49 46 rfl rfl rfl rfl rfl rfl ?_
          refine gz 39 true 43 50 47 rfl rfl rfl rfl rfl rfl ?_
          refine g0 31 false 35 51 48 rfl rfl rfl rfl rfl rfl ?_
          refine s1 52 401 49 rfl rfl rfl rfl rfl rfl trivial ?_
          refine s1 3 409 50 rfl rfl rfl rfl rfl rfl trivial ?_
          refine e1 417 rfl ?_
          refine keep [3] rfl ?_
          refine W_ret ?_
          exact out1 3 (SV.b (oddB k a)) (π := [0]) (hout := [some (.cells 3 1 [SV.i k])]) Try.results11 rfl (by show SV.b _ = SV.b _; refine congrArg SV.b (Bool.eq_iff_iff.2 ?_); cases hp : a.p <;> simp [oddB, inB, heldB, hp] at * <;> omega) rfl rfl ⟨rfl, trivial⟩ ⟨rfl, rfl⟩
        · skip
          try simp only [decide_eq_true_eq, decide_eq_false_iff_not, Bool.not_eq_true', Bool.not_eq_false', beq_iff_eq, bne_iff_ne, beq_eq_false_iff_ne, Bool.and_eq_true, Bool.or_eq_true, Bool.and_eq_false_iff, Bool.or_eq_false_iff, ge_iff_le, gt_iff_lt, Int.not_lt, Int.not_le, ne_eq, Decidable.not_not, bne_eq_false_iff_eq] at hg1_35
          refine g1 31 false 35 36 33 rfl rfl rfl rfl rfl ?_
          refine s1 36 273 33 rfl rfl rfl rfl rfl rfl (by first | trivial | omega | (simp only [List.length_map, List.length_append, List.length_cons, List.length_nil] at *; omega)) ?_
          refine g1 31 false 35 37 34 rfl rfl rfl rfl rfl ?_
          refine c1 (held_any k) [] [] 37 281 34 rfl rfl rfl rfl rfl rfl rfl rfl Try.func12 rfl rfl rfl rfl trivial rfl rfl ?_
          refine g1 31 false 35 38 35 rfl rfl rfl rfl rfl ?_
          refine s1 38 289 35 rfl rfl rfl rfl rfl rfl trivial ?_
          refine joinB 4 39 42 (heldB k && decide (a.v < 0)) [2, 35, 38] [2, 35] rfl rfl rfl rfl ?_ (fun hj1_38 => ?_)
          · skip
            refine g1 31 false 35 43 40 rfl rfl rfl rfl rfl ?_
            refine s1 43 329 40 rfl rfl rfl rfl rfl rfl trivial ?_
            refine ask 43 rfl (fun hg1_43 => ?_) (fun hg1_43 => ?_)
            · skip
              try simp only [decide_eq_true_eq, decide_eq_false_iff_not, Bool.not_eq_true', Bool.not_eq_false', beq_iff_eq, bne_iff_ne, beq_eq_false_iff_ne, Bool.and_eq_true, Bool.or_eq_true, Bool.and_eq_false_iff, Bool.or_eq_false_iff, ge_iff_le, gt_iff_lt, Int.not_lt, Int.not_le, ne_eq, Decidable.not_not, bne_eq_false_iff_eq] at hg1_43
              refine g1 39 true 43 44 41 rfl rfl rfl rfl rfl ?_
              refine s1 44 337 41 rfl rfl rfl rfl rfl rfl trivial ?_
              refine g1 39 true 43 45 42 rfl rfl rfl rfl rfl ?_
              refine s1 45 345 42 rfl rfl rfl rfl rfl rfl (by first | trivial | omega | (simp only [List.length_map, List.length_append, List.length_cons, List.length_nil] at *; omega)) ?_
              refine g1 39 true 43 46 43 rfl rfl rfl rfl rfl ?_
              refine s1 46 353 43 rfl rfl rfl rfl rfl rfl trivial ?_
              refine ask 46 rfl (fun hg1_46 => ?_) (fun hg1_46 => ?_)
              · skip
                try simp only [decide_eq_true_eq, decide_eq_false_iff_not, Bool.not_eq_true', Bool.not_eq_false', beq_iff_eq, bne_iff_ne, beq_eq_false_iff_ne, Bool.and_eq_true, Bool.or_eq_true, Bool.and_eq_false_iff, Bool.or_eq_false_iff, ge_iff_le, gt_iff_lt, Int.not_lt, Int.not_le, ne_eq, Decidable.not_not, bne_eq_false_iff_eq] at hg1_46
                refine g0 42 false 46 47 44 rfl rfl rfl rfl rfl rfl ?_
                refine g0 42 false 46 48 45 rfl rfl rfl rfl rfl rfl ?_
                refine g0 42 false 46 49 46 rfl rfl rfl rfl rfl rfl ?_
                refine g1 39 true 43 50 47 rfl rfl rfl rfl rfl ?_
                refine s1 50 385 47 rfl rfl rfl rfl rfl rfl trivial ?_
                refine g1 31 false 35 51 48 rfl rfl rfl rfl rfl ?_
                refine s1 51 393 48 rfl rfl rfl rfl rfl rfl trivial ?_
                refine s1 52 401 49 rfl rfl rfl rfl rfl rfl trivial ?_
                refine s1 3 409 50 rfl rfl rfl rfl rfl rfl trivial ?_
                refine e1 417 rfl ?_
                refine keep [3] rfl ?_
                refine W_ret ?_
                exact out1 3 (SV.b (oddB k a)) (π := [0]) (hout := [some (.cells 3 1 [SV.i k])]) Try.results11 rfl (by show SV.b _ = SV.b _; refine congrArg SV.b (Bool.eq_iff_iff.2 ?_); cases hp : a.p <;> simp [oddB, inB, heldB, hp] at * <;> omega) rfl rfl ⟨rfl, trivial⟩ ⟨rfl, rfl⟩
              · skip
                try simp only [decide_eq_true_eq, decide_eq_false_iff_not, Bool.not_eq_true', Bool.not_eq_false', beq_iff_eq, bne_iff_ne, beq_eq_false_iff_ne, Bool.and_eq_true, Bool.or_eq_true, Bool.and_eq_false_iff, Bool.or_eq_false_iff, ge_iff_le, gt_iff_lt, Int.not_lt, Int.not_le, ne_eq, Decidable.not_not, bne_eq_false_iff_eq] at hg1_46
                refine g1 42 false 46 47 44 rfl rfl rfl rfl rfl ?_
                refine s1 47 361 44 rfl rfl rfl rfl rfl rfl trivial ?_
                refine g1 42 false 46 48 45 rfl rfl rfl rfl rfl ?_
                refine s1 48 369 45 rfl rfl rfl rfl rfl rfl (by first | trivial | omega | (simp only [List.length_map, List.length_append, List.length_cons, List.length_nil] at *; omega)) ?_
                refine g1 42 false 46 49 46 rfl rfl rfl rfl rfl ?_
                refine s1 49 377 46 rfl rfl rfl rfl rfl rfl (by first | trivial | omega | (simp only [List.length_map, List.length_append, List.length_cons, List.length_nil] at *; omega)) ?_
                refine g1 39 true 43 50 47 rfl rfl rfl rfl rfl ?_
                refine s1 50 385 47 rfl rfl rfl rfl rfl rfl trivial ?_
                refine g1 31 false 35 51 48 rfl rfl rfl rfl rfl ?_
                refine s1 51 393 48 rfl rfl rfl rfl rfl rfl trivial ?_
                refine s1 52 401 49 rfl rfl rfl rfl rfl rfl trivial ?_
                refine s1 3 409 50 rfl rfl rfl rfl rfl rfl trivial ?_
                refine e1 417 rfl ?_
                refine keep [3] rfl ?_
                refine W_ret ?_
                exact out1 3 (SV.b (oddB k a)) (π := [0]) (hout := [some (.cells 3 1 [SV.i k])]) Try.results11 rfl (by show SV.b _ = SV.b _; refine congrArg SV.b (Bool.eq_iff_iff.2 ?_); cases hp : a.p <;> simp [oddB, inB, heldB, hp] at * <;> omega) rfl rfl ⟨rfl, trivial⟩ ⟨rfl, rfl⟩
            · skip
              try simp only [decide_eq_true_eq, decide_eq_false_iff_not, Bool.not_eq_true', Bool.not_eq_false', beq_iff_eq, bne_iff_ne, beq_eq_false_iff_ne, Bool.and_eq_true, Bool.or_eq_true, Bool.and_eq_false_iff, Bool.or_eq_false_iff, ge_iff_le, gt_iff_lt, Int.not_lt, Int.not_le, ne_eq, Decidable.not_not, bne_eq_false_iff_eq] at hg1_43
              refine g0 39 true 43 44 41 rfl rfl rfl rfl rfl rfl ?_
              refine g0 39 true 43 45 42 rfl rfl rfl rfl rfl rfl ?_
              refine g0 39 true 43 46 43 rfl rfl rfl rfl rfl rfl ?_
              refine gz 42 false 46 47 44 rfl rfl rfl rfl rfl rfl ?_
              refine gz 42 false 46 48 45 rfl rfl rfl rfl rfl rfl ?_
              refine gz 42 false 46 49 46 rfl rfl rfl rfl rfl rfl ?_
              refine g0 39 true 43 50 47 rfl rfl rfl rfl rfl rfl ?_
              refine g1 31 false 35 51 48 rfl rfl rfl rfl rfl ?_
              refine s1 51 393 48 rfl rfl rfl rfl rfl rfl trivial ?_
              refine s1 52 401 49 rfl rfl rfl rfl rfl rfl trivial ?_
              refine s1 3 409 50 rfl rfl rfl rfl rfl rfl trivial ?_
              refine e1 417 rfl ?_
              refine keep [3] rfl ?_
              refine W_ret ?_
              exact out1 3 (SV.b (oddB k a)) (π := [0]) (hout := [some (.cells 3 1 [SV.i k])]) Try.results11 rfl (by show SV.b _ = SV.b _; refine congrArg SV.b (Bool.eq_iff_iff.2 ?_); cases hp : a.p <;> simp [oddB, inB, heldB, hp] at * <;> omega) rfl rfl ⟨rfl, trivial⟩ ⟨rfl, rfl⟩
          · skip
            refine ask 38 rfl (fun hg1_38 => ?_) (fun hg1_38 => ?_)
            · skip
              try simp only [decide_eq_true_eq, decide_eq_false_iff_not, Bool.not_eq_true', Bool.not_eq_false', beq_iff_eq, bne_iff_ne, beq_eq_false_iff_ne, Bool.and_eq_true, Bool.or_eq_true, Bool.and_eq_false_iff, Bool.or_eq_false_iff, ge_iff_le, gt_iff_lt, Int.not_lt, Int.not_le, ne_eq, Decidable.not_not, bne_eq_false_iff_eq] at hg1_38
              refine g1 34 true 38 39 36 rfl rfl rfl rfl rfl ?_
              refine s1 39 297 36 rfl rfl rfl rfl rfl rfl trivial ?_
              refine g1 34 true 38 40 37 rfl rfl rfl rfl rfl ?_
              refine s1 40 305 37 rfl rfl rfl rfl rfl rfl (by first | trivial | omega | (simp only [List.length_map, List.length_append, List.length_cons, List.length_nil] at *; omega)) ?_
              refine g1 34 true 38 41 38 rfl rfl rfl rfl rfl ?_
              refine s1 41 313 38 rfl rfl rfl rfl rfl rfl (by first | trivial | omega | (simp only [List.length_map, List.length_append, List.length_cons, List.length_nil] at *; omega)) ?_
              refine g1 31 false 35 42 39 rfl rfl rfl rfl rfl ?_
              refine s1 42 321 39 rfl rfl rfl rfl rfl rfl trivial ?_
              exact joinEnd hj1_38 rfl (by clear hj1_38; refine Bool.eq_iff_iff.2 ?_; cases hp : a.p <;> simp [inB, heldB, hp] at * <;> omega) ⟨rfl, rfl, trivial⟩
            · skip
              try simp only [decide_eq_true_eq, decide_eq_false_iff_not, Bool.not_eq_true', Bool.not_eq_false', beq_iff_eq, bne_iff_ne, beq_eq_false_iff_ne, Bool.and_eq_true, Bool.or_eq_true, Bool.and_eq_false_iff, Bool.or_eq_false_iff, ge_iff_le, gt_iff_lt, Int.not_lt, Int.not_le, ne_eq, Decidable.not_not, bne_eq_false_iff_eq] at hg1_38
              refine g0 34 true 38 39 36 rfl rfl rfl rfl rfl rfl ?_
              refine g0 34 true 38 40 37 rfl rfl rfl rfl rfl rfl ?_
              refine g0 34 true 38 41 38 rfl rfl rfl rfl rfl rfl ?_
              refine g1 31 false 35 42 39 rfl rfl rfl rfl rfl ?_
              refine s1 42 321 39 rfl rfl rfl rfl rfl rfl trivial ?_
              exact joinEnd hj1_38 rfl (by clear hj1_38; refine Bool.eq_iff_iff.2 ?_; cases hp : a.p <;> simp [inB, heldB, hp] at * <;> omega) ⟨rfl, rfl, trivial⟩
      · skip
        refine ask 25 rfl (fun hg1_25 => ?_) (fun hg1_25 => ?_)
        · skip
          try simp only [decide_eq_true_eq, decide_eq_false_iff_not, Bool.not_eq_true', Bool.not_eq_false', beq_iff_eq, bne_iff_ne, beq_eq_false_iff_ne, Bool.and_eq_true, Bool.or_eq_true, Bool.and_eq_false_iff, Bool.or_eq_false_iff, ge_iff_le, gt_iff_lt, Int.not_lt, Int.not_le, ne_eq, Decidable.not_not, bne_eq_false_iff_eq] at hg1_25
          refine g1 21 true 25 26 23 rfl rfl rfl rfl rfl ?_
          refine s1 26 193 23 rfl rfl rfl rfl rfl rfl (by first | trivial | omega | (simp only [List.length_map, List.length_append, List.length_cons, List.length_nil] at *; omega)) ?_
          refine g1 21 true 25 27 24 rfl rfl rfl rfl rfl ?_
          refine s1 27 201 24 rfl rfl rfl rfl rfl rfl (by first | trivial | omega | (simp only [List.length_map, List.length_append, List.length_cons, List.length_nil] at *; omega)) ?_
          refine g1 21 true 25 28 25 rfl rfl rfl rfl rfl ?_
          refine s1 28 209 25 rfl rfl rfl rfl rfl rfl trivial ?_
          refine ask 28 rfl (fun hg1_28 => ?_) (fun hg1_28 => ?_)
          · skip
            try simp only [decide_eq_true_eq, decide_eq_false_iff_not, Bool.not_eq_true', Bool.not_eq_false', beq_iff_eq, bne_iff_ne, beq_eq_false_iff_ne, Bool.and_eq_true, Bool.or_eq_true, Bool.and_eq_false_iff, Bool.or_eq_false_iff, ge_iff_le, gt_iff_lt, Int.not_lt, Int.not_le, ne_eq, Decidable.not_not, bne_eq_false_iff_eq] at hg1_28
            refine g0 24 false 28 29 26 rfl rfl rfl rfl rfl rfl ?_
            refine g0 24 false 28 30 27 rfl rfl rfl rfl rfl rfl ?_
            refine g0 24 false 28 31 28 rfl rfl rfl rfl rfl rfl ?_
            refine g1 21 true 25 32 29 rfl rfl rfl rfl rfl ?_
            refine s1 32 241 29 rfl rfl rfl rfl rfl rfl trivial ?_
            refine g1 17 false 21 33 30 rfl rfl rfl rfl rfl ?_
            refine s1 33 249 30 rfl rfl rfl rfl rfl rfl trivial ?_
            exact joinEnd hj1_29 rfl (by clear hj1_29; refine Bool.eq_iff_iff.2 ?_; cases hp : a.p <;> simp [inB, heldB, hp] at * <;> omega) ⟨rfl, rfl, rfl, trivial⟩
          · skip
            try simp only [decide_eq_true_eq, decide_eq_false_iff_not, Bool.not_eq_true', Bool.not_eq_false', beq_iff_eq, bne_iff_ne, beq_eq_false_iff_ne, Bool.and_eq_true, Bool.or_eq_true, Bool.and_eq_false_iff, Bool.or_eq_false_iff, ge_iff_le, gt_iff_lt, Int.not_lt, Int.not_le, ne_eq, Decidable.not_not, bne_eq_false_iff_eq] at hg1_28
            refine g1 24 false 28 29 26 rfl rfl rfl rfl rfl ?_
            refine s1 29 217 26 rfl rfl rfl rfl rfl rfl trivial ?_
            refine g1 24 false 28 30 27 rfl rfl rfl rfl rfl ?_
            refine s1 30 225 27 rfl rfl rfl rfl rfl rfl (by first | trivial | omega | (simp only [List.length_map, List.length_append, List.length_cons, List.length_nil] at *; omega)) ?_
            refine g1 24 false 28 31 28 rfl rfl rfl rfl rfl ?_
            refine s1 31 233 28 rfl rfl rfl rfl rfl rfl trivial ?_
            refine g1 21 true 25 32 29 rfl rfl rfl rfl rfl ?_
            refine s1 32 241 29 rfl rfl rfl rfl rfl rfl trivial ?_
            refine g1 17 false 21 33 30 rfl rfl rfl rfl rfl ?_
            refine s1 33 249 30 rfl rfl rfl rfl rfl rfl trivial ?_
            exact joinEnd hj1_29 rfl (by clear hj1_29; refine Bool.eq_iff_iff.2 ?_; cases hp : a.p <;> simp [inB, heldB, hp] at * <;> omega) ⟨rfl, rfl, rfl, trivial⟩
        · skip
          try simp only [decide_eq_true_eq, decide_eq_false_iff_not, Bool.not_eq_true', Bool.not_eq_false', beq_iff_eq, bne_iff_ne, beq_eq_false_iff_ne, Bool.and_eq_true, Bool.or_eq_true, Bool.and_eq_false_iff, Bool.or_eq_false_iff, ge_iff_le, gt_iff_lt, Int.not_lt, Int.not_le, ne_eq, Decidable.not_not, bne_eq_false_iff_eq] at hg1_25
          refine g0 21 true 25 26 23 rfl rfl rfl rfl rfl rfl ?_
          refine g0 21 true 25 27 24 rfl rfl rfl rfl rfl rfl ?_
          refine g0 21 true 25 28 25 rfl rfl rfl rfl rfl rfl ?_
          refine gz 24 false 28 29 26 rfl rfl rfl rfl rfl rfl ?_
          refine gz 24 false 28 30 27 rfl rfl rfl rfl rfl rfl ?_
          refine gz 24 false 28 31 28 rfl rfl rfl rfl rfl rfl ?_
          refine g0 21 true 25 32 29 rfl rfl rfl rfl rfl rfl ?_
          refine g1 17 false 21 33 30 rfl rfl rfl rfl rfl ?_
          refine s1 33 249 30 rfl rfl rfl rfl rfl rfl trivial ?_
          exact joinEnd hj1_29 rfl (by clear hj1_29; refine Bool.eq_iff_iff.2 ?_; cases hp : a.p <;> simp [inB, heldB, hp] at * <;> omega) ⟨rfl, rfl, rfl, trivial⟩
  · skip
    refine ask 8 rfl (fun hg1_8 => ?_) (fun hg1_8 => ?_)
    · skip
      try simp only [decide_eq_true_eq, decide_eq_false_iff_not, Bool.not_eq_true', Bool.not_eq_false', beq_iff_eq, bne_iff_ne, beq_eq_false_iff_ne, Bool.and_eq_true, Bool.or_eq_true, Bool.and_eq_false_iff, Bool.or_eq_false_iff, ge_iff_le, gt_iff_lt, Int.not_lt, Int.not_le, ne_eq, Decidable.not_not, bne_eq_false_iff_eq] at hg1_8
      refine g0 4 false 8 9 6 rfl rfl rfl rfl rfl rfl ?_
      refine g0 4 false 8 10 7 rfl rfl rfl rfl rfl rfl ?_
      refine g0 4 false 8 11 8 rfl rfl rfl rfl rfl rfl ?_
      refine g0 4 false 8 12 9 rfl rfl rfl rfl rfl rfl ?_
      refine gz 8 true 12 13 10 rfl rfl rfl rfl rfl rfl ?_
      refine gz 8 true 12 14 11 rfl rfl rfl rfl rfl rfl ?_
      refine gz 8 true 12 15 12 rfl rfl rfl rfl rfl rfl ?_
      refine gz 8 true 12 16 13 rfl rfl rfl rfl rfl rfl ?_
      refine gz 8 true 12 17 14 rfl rfl rfl rfl rfl rfl ?_
      refine gz 8 true 12 18 15 rfl rfl rfl rfl rfl rfl ?_
      refine g0 4 false 8 19 16 rfl rfl rfl rfl rfl rfl ?_
      refine s1 20 145 17 rfl rfl rfl rfl rfl rfl trivial ?_
      exact joinEnd hj1_16 rfl (by clear hj1_16; refine Bool.eq_iff_iff.2 ?_; cases hp : a.p <;> simp [inB, heldB, hp] at * <;> omega) ⟨rfl, rfl, trivial⟩
    · skip
      try simp only [decide_eq_true_eq, decide_eq_false_iff_not, Bool.not_eq_true', Bool.not_eq_false', beq_iff_eq, bne_iff_ne, beq_eq_false_iff_ne, Bool.and_eq_true, Bool.or_eq_true, Bool.and_eq_false_iff, Bool.or_eq_false_iff, ge_iff_le, gt_iff_lt, Int.not_lt, Int.not_le, ne_eq, Decidable.not_not, bne_eq_false_iff_eq] at hg1_8
      refine g1 4 false 8 9 6 rfl rfl rfl rfl rfl ?_
      refine s1 9 57 6 rfl rfl rfl rfl rfl rfl trivial ?_
      refine g1 4 false 8 10 7 rfl rfl rfl rfl rfl ?_
      refine s1 10 65 7 rfl rfl rfl rfl rfl rfl (by first | trivial | omega | (simp only [List.length_map, List.length_append, List.length_cons, List.length_nil] at *; omega)) ?_
      refine g1 4 false 8 11 8 rfl rfl rfl rfl rfl ?_
      refine s1 11 73 8 rfl rfl rfl rfl rfl rfl (by first | trivial | omega | (simp only [List.length_map, List.length_append, List.length_cons, List.length_nil] at *; omega)) ?_
      refine g1 4 false 8 12 9 rfl rfl rfl rfl rfl ?_
      refine s1 12 81 9 rfl rfl rfl rfl rfl rfl trivial ?_
      refine ask 12 rfl (fun hg1_12 => ?_) (fun hg1_12 => ?_)
      · skip
        try simp only [decide_eq_true_eq, decide_eq_false_iff_not, Bool.not_eq_true', Bool.not_eq_false', beq_iff_eq, bne_iff_ne, beq_eq_false_iff_ne, Bool.and_eq_true, Bool.or_eq_true, Bool.and_eq_false_iff, Bool.or_eq_false_iff, ge_iff_le, gt_iff_lt, Int.not_lt, Int.not_le, ne_eq, Decidable.not_not, bne_eq_false_iff_eq] at hg1_12
        refine g1 8 true 12 13 10 rfl rfl rfl rfl rfl ?_
        refine s1 13 89 10 rfl rfl rfl rfl rfl rfl trivial ?_
        refine g1 8 true 12 14 11 rfl rfl rfl rfl rfl ?_
        refine s1 14 97 11 rfl rfl rfl rfl rfl rfl (by first | trivial | omega | (simp only [List.length_map, List.length_append, List.length_cons, List.length_nil] at *; omega)) ?_
        refine g1 8 true 12 15 12 rfl rfl rfl rfl rfl ?_
        refine s1 15 105 12 rfl rfl rfl rfl rfl rfl trivial ?_
        refine g1 8 true 12 16 13 rfl rfl rfl rfl rfl ?_
        refine s1 16 113 13 rfl rfl rfl rfl rfl rfl (by first | trivial | omega | (simp only [List.length_map, List.length_append, List.length_cons, List.length_nil] at *; omega)) ?_
        refine g1 8 true 12 17 14 rfl rfl rfl rfl rfl ?_
        refine c1 (in_any a.e a.b 1048576) [] [] 17 121 14 rfl rfl rfl rfl rfl rfl rfl rfl Try.func9 rfl rfl rfl rfl trivial rfl rfl ?_
        refine g1 8 true 12 18 15 rfl rfl rfl rfl rfl ?_
        refine s1 18 129 15 rfl rfl rfl rfl rfl rfl trivial ?_
        refine g1 4 false 8 19 16 rfl rfl rfl rfl rfl ?_
        refine s1 19 137 16 rfl rfl rfl rfl rfl rfl trivial ?_
        refine s1 20 145 17 rfl rfl rfl rfl rfl rfl trivial ?_
        exact joinEnd hj1_16 rfl (by clear hj1_16; refine Bool.eq_iff_iff.2 ?_; cases hp : a.p <;> simp [inB, heldB, hp] at * <;> omega) ⟨rfl, rfl, trivial⟩
      · skip
        try simp only [decide_eq_true_eq, decide_eq_false_iff_not, Bool.not_eq_true', Bool.not_eq_false', beq_iff_eq, bne_iff_ne, beq_eq_false_iff_ne, Bool.and_eq_true, Bool.or_eq_true, Bool.and_eq_false_iff, Bool.or_eq_false_iff, ge_iff_le, gt_iff_lt, Int.not_lt, Int.not_le, ne_eq, Decidable.not_not, bne_eq_false_iff_eq] at hg1_12
        refine g0 8 true 12 13 10 rfl rfl rfl rfl rfl rfl ?_
        refine g0 8 true 12 14 11 rfl rfl rfl rfl rfl rfl ?_
        refine g0 8 true 12 15 12 rfl rfl rfl rfl rfl rfl ?_
        refine g0 8 true 12 16 13 rfl rfl rfl rfl rfl rfl ?_
        refine g0 8 true 12 17 14 rfl rfl rfl rfl rfl rfl ?_
        refine g0 8 true 12 18 15 rfl rfl rfl rfl rfl rfl ?_
        refine g1 4 false 8 19 16 rfl rfl rfl rfl rfl ?_
        refine s1 19 137 16 rfl rfl rfl rfl rfl rfl trivial ?_
        refine s1 20 145 17 rfl rfl rfl rfl rfl rfl trivial ?_
        exact joinEnd hj1_16 rfl (by clear hj1_16; refine Bool.eq_iff_iff.2 ?_; cases hp : a.p <;> simp [inB, heldB, hp] at * <;> omega) ⟨rfl, rfl, trivial⟩


theorem getD_lt {l : List Act} {k : Nat} (h : k < l.length) : l.getD k default = l[k] := by simp [List.getD, List.getElem?_eq_getElem h]
theorem idx_found {l : List Act} {p : Act → Bool} {k : Nat} (h : k < l.length) (hp : p (l.getD k default) = true) (hn : ∀ j, j < k → p (l.getD j default) = false) : idx l p = k := by
  unfold idx
  have : l.findIdx? p = some k := by
    rw [List.findIdx?_eq_some_iff_getElem]
    refine ⟨h, by rw [← getD_lt h]; exact hp, fun j hj => by have := hn j hj; rw [getD_lt (by omega)] at this; simp [this]⟩
  rw [this]
theorem idx_none {l : List Act} {p : Act → Bool} (hn : ∀ j, j < l.length → p (l.getD j default) = false) : idx l p = -1 := by
  unfold idx
  have : l.findIdx? p = none := by
    rw [List.findIdx?_eq_none_iff]
    intro x hx
    obtain ⟨j, hj, rfl⟩ := List.mem_iff_getElem.1 hx
    rw [← getD_lt hj]; exact hn j hj
  rw [this]
theorem idx_any {l : List Act} {p : Act → Bool} : decide (idx l p ≥ 0) = l.any p := by
  unfold idx
  cases h : l.findIdx? p with
  | none =>
    rw [List.findIdx?_eq_none_iff] at h
    have : l.any p = false := by rw [List.any_eq_false]; intro x hx; simp [h x hx]
    rw [this]; rfl
  | some i =>
    rw [List.findIdx?_eq_some_iff_getElem] at h
    obtain ⟨hi, hp, _⟩ := h
    have : l.any p = true := by rw [List.any_eq_true]; exact ⟨_, List.getElem_mem hi, hp⟩
    rw [this]; simp

theorem index_any (k : Int) (l : List Act) (hl : l.length ≤ 9223372036854775807) : Spec Try.prog G0 15 [actsV l, .fn 11 [.ptr 0 0 0]] [.cells 3 1 [SV.i k]] (fun r ho => r = SV.i (idx l (oddB k)) ∧ ho = [some (.cells 3 1 [SV.i k])]) := by
  refine start 19 1 Try.func15 rfl rfl rfl rfl ?_
  refine r1 ?_
  refine s1 4 1 1 rfl rfl rfl rfl rfl rfl trivial ?_
  refine e1 9 rfl ?_
  refine keep [0, 1] rfl ?_
  refine W_seq ?_
  refine r1 ?_
  refine s1 6 9 1 rfl rfl rfl rfl rfl rfl trivial ?_
  refine s1 7 17 2 rfl rfl rfl rfl rfl rfl (by first | trivial | omega | (simp only [List.length_map, List.length_append, List.length_cons, List.length_nil] at *; omega)) ?_
  refine s1 8 25 3 rfl rfl rfl rfl rfl rfl trivial ?_
  refine e1 33 rfl ?_
  refine keep [0, 1, 7, 8] rfl ?_
  refine W_block ?_
  refine loop (α := Nat) 1 (fun n => [(0, actsV l), (1, .fn 11 [.ptr 0 0 0]), (7, SV.i l.length), (8, SV.i n)]) (fun n => [some (.cells 3 1 [SV.i k])]) (fun n => n ≤ l.length ∧ ∀ j, j < n → oddB k (l.getD j default) = false) (fun n => l.length - n) (0) [0] (fun _ => rfl) ⟨Nat.zero_le _, fun j hj => by omega⟩ rfl ⟨rfl, rfl, rfl, rfl, trivial⟩ ⟨rfl, trivial⟩ (fun n hx => ?_)
  obtain ⟨hn, hno⟩ := hx
  refine r1 ?_
  refine s1 9 1 1 rfl rfl rfl rfl rfl rfl (by first | trivial | omega | (simp only [List.length_map, List.length_append, List.length_cons, List.length_nil] at *; omega)) ?_
  refine e1 9 rfl ?_
  refine keep [0, 1, 7, 8, 9] rfl ?_
  refine W_seq ?_
  refine q1 rfl (fun hc2 => ?_) (fun hc2 => ?_)
  · skip
    try simp only [decide_eq_true_eq, decide_eq_false_iff_not, Bool.not_eq_true', Bool.not_eq_false', beq_iff_eq, bne_iff_ne, beq_eq_false_iff_ne, Bool.and_eq_true, Bool.or_eq_true, Bool.and_eq_false_iff, Bool.or_eq_false_iff, ge_iff_le, gt_iff_lt, Int.not_lt, Int.not_le, ne_eq, Decidable.not_not, bne_eq_false_iff_eq] at hc2
    refine W_skip ?_
    refine tn ?_
    refine W_seq ?_
    refine W_block ?_
    refine r1 ?_
    refine s1 10 9 1 rfl rfl rfl rfl rfl rfl trivial ?_
    refine s1 5 17 2 rfl rfl rfl rfl rfl rfl trivial ?_
    refine e1 25 rfl ?_
    refine keep [0, 1, 5, 7, 8] rfl ?_
    refine r1 ?_
    refine s1 11 25 1 rfl rfl rfl rfl rfl rfl trivial ?_
    refine s1 12 33 2 rfl rfl rfl rfl rfl rfl trivial ?_
    refine s1 13 41 3 rfl rfl rfl rfl rfl rfl trivial ?_
    refine s1 14 49 4 rfl rfl rfl rfl rfl rfl (by first | trivial | omega | (simp only [List.length_map, List.length_append, List.length_cons, List.length_nil] at *; omega)) ?_
    refine s1 15 57 5 rfl rfl rfl rfl rfl rfl (by first | trivial | omega | (simp only [List.length_map, List.length_append, List.length_cons, List.length_nil] at *; omega)) ?_
    refine c1 (odd_any k (l.getD n default)) [0] [0] 16 65 6 rfl rfl rfl rfl rfl rfl rfl rfl Try.func11 rfl rfl rfl rfl ⟨rfl, trivial⟩ rfl rfl ?_
    refine e1 73 rfl ?_
    refine keep [0, 1, 5, 7, 8, 16] rfl ?_
    refine q1 rfl (fun hc4 => ?_) (fun hc4 => ?_)
    · skip
      try simp only [decide_eq_true_eq, decide_eq_false_iff_not, Bool.not_eq_true', Bool.not_eq_false', beq_iff_eq, bne_iff_ne, beq_eq_false_iff_ne, Bool.and_eq_true, Bool.or_eq_true, Bool.and_eq_false_iff, Bool.or_eq_false_iff, ge_iff_le, gt_iff_lt, Int.not_lt, Int.not_le, ne_eq, Decidable.not_not, bne_eq_false_iff_eq] at hc4
      refine r1 ?_
      refine s1 17 73 1 rfl rfl rfl rfl rfl rfl trivial ?_
      refine s1 4 81 2 rfl rfl rfl rfl rfl rfl trivial ?_
      refine e1 89 rfl ?_
      refine keep [4] rfl ?_
      refine W_ret ?_
      refine br ?_
      refine tr ?_
      refine tr ?_
      refine br ?_
      refine tr ?_
      exact out1 4 (SV.i (idx l (oddB k))) (π := [0]) (hout := [some (.cells 3 1 [SV.i k])]) Try.results15 rfl (by rw [idx_found (by omega) hc4 hno]; rfl) rfl rfl ⟨rfl, trivial⟩ ⟨rfl, rfl⟩
    · skip
      try simp only [decide_eq_true_eq, decide_eq_false_iff_not, Bool.not_eq_true', Bool.not_eq_false', beq_iff_eq, bne_iff_ne, beq_eq_false_iff_ne, Bool.and_eq_true, Bool.or_eq_true, Bool.and_eq_false_iff, Bool.or_eq_false_iff, ge_iff_le, gt_iff_lt, Int.not_lt, Int.not_le, ne_eq, Decidable.not_not, bne_eq_false_iff_eq] at hc4
      refine W_skip ?_
      refine bn ?_
      refine tn ?_
      refine r0 ?_
      refine sA 18 73 1 rfl rfl rfl rfl rfl rfl rfl rfl rfl (by unfold inRange; omega) ?_
      refine s1 8 81 2 rfl rfl rfl rfl rfl rfl trivial ?_
      refine e1 89 rfl ?_
      refine tn ?_
      exact again (n + 1) [0] ⟨by omega, fun j hj => by by_cases e : j = n; (subst e; exact hc4); exact hno j (by omega)⟩ (by omega) rfl ⟨rfl, rfl, rfl, rfl, trivial⟩ ⟨rfl, trivial⟩
  · skip
    try simp only [decide_eq_true_eq, decide_eq_false_iff_not, Bool.not_eq_true', Bool.not_eq_false', beq_iff_eq, bne_iff_ne, beq_eq_false_iff_ne, Bool.and_eq_true, Bool.or_eq_true, Bool.and_eq_false_iff, Bool.or_eq_false_iff, ge_iff_le, gt_iff_lt, Int.not_lt, Int.not_le, ne_eq, Decidable.not_not, bne_eq_false_iff_eq] at hc2
    refine W_exit ?_
    refine tx ?_
    refine tx ?_
    refine bx ?_
    refine tn ?_
    refine r1 ?_
    refine s1 4 9 1 rfl rfl rfl rfl rfl rfl trivial ?_
    refine e1 17 rfl ?_
    refine keep [4] rfl ?_
    refine W_ret ?_
    exact out1 4 (SV.i (idx l (oddB k))) (π := [0]) (hout := [some (.cells 3 1 [SV.i k])]) Try.results15 rfl (by rw [idx_none (fun j hj => hno j (by omega))]; rfl) rfl rfl ⟨rfl, trivial⟩ ⟨rfl, rfl⟩

theorem contains_any (k : Int) (l : List Act) (hl : l.length ≤ 9223372036854775807) : Spec Try.prog G0 10 [actsV l, .fn 11 [.ptr 0 0 0]] [.cells 3 1 [SV.i k]] (fun r ho => r = SV.b (l.any (oddB k)) ∧ ho = [some (.cells 3 1 [SV.i k])]) := by
  refine start 9 1 Try.func10 rfl rfl rfl rfl ?_
  refine r1 ?_
  refine s1 4 1 1 rfl rfl rfl rfl rfl rfl trivial ?_
  refine e1 9 rfl ?_
  refine keep [0, 1] rfl ?_
  refine r1 ?_
  refine s1 5 9 1 rfl rfl rfl rfl rfl rfl trivial ?_
  refine s1 6 17 2 rfl rfl rfl rfl rfl rfl trivial ?_
  refine c1 (index_any k l hl) [0] [0] 7 25 3 rfl rfl rfl rfl rfl rfl rfl rfl Try.func15 rfl rfl rfl rfl ⟨rfl, trivial⟩ rfl rfl ?_
  refine s1 8 33 4 rfl rfl rfl rfl rfl rfl (by first | trivial | omega | (simp only [List.length_map, List.length_append, List.length_cons, List.length_nil] at *; omega)) ?_
  refine s1 4 41 5 rfl rfl rfl rfl rfl rfl trivial ?_
  refine e1 49 rfl ?_
  refine keep [4] rfl ?_
  refine W_ret ?_
  exact out1 4 (SV.b (l.any (oddB k))) (π := [0]) (hout := [some (.cells 3 1 [SV.i k])]) Try.results10 rfl (congrArg SV.b idx_any) rfl rfl ⟨rfl, trivial⟩ ⟨rfl, rfl⟩

theorem may_any (k : Int) (l : List Act) (hl : l.length ≤ 9223372036854775807) : Spec Try.prog G0 5 [SV.i k, actsV l] [] (fun r ho => r = SV.b (mayB k l) ∧ ho = []) := by
  refine start 17 0 Try.func5 rfl rfl rfl rfl ?_
  refine r1 ?_
  refine s1 2 0 1 rfl rfl rfl rfl rfl rfl trivial ?_
  refine s1 4 8 2 rfl rfl rfl rfl rfl rfl trivial ?_
  refine e1 16 rfl ?_
  refine keep [1, 2] rfl ?_
  refine W_seq ?_
  refine r1 ?_
  refine s1 5 16 1 rfl rfl rfl rfl rfl rfl (by first | trivial | omega | (simp only [List.length_map, List.length_append, List.length_cons, List.length_nil] at *; omega)) ?_
  refine c1 (in_any k 1 4) [] [] 6 24 2 rfl rfl rfl rfl rfl rfl rfl rfl Try.func9 rfl rfl rfl rfl trivial rfl rfl ?_
  refine s1 7 32 3 rfl rfl rfl rfl rfl rfl trivial ?_
  refine s1 8 40 4 rfl rfl rfl rfl rfl rfl trivial ?_
  refine joinB 4 8 12 (!(inB k 1 4) || decide (9 < l.length)) [1, 2, 8] [1, 2] rfl rfl rfl rfl ?_ (fun hj1_7 => ?_)
  · skip
    refine e1 80 rfl ?_
    refine keep [1, 2, 12] rfl ?_
    refine q1 rfl (fun hc1 => ?_) (fun hc1 => ?_)
    · skip
      try simp only [decide_eq_true_eq, decide_eq_false_iff_not, Bool.not_eq_true', Bool.not_eq_false', beq_iff_eq, bne_iff_ne, beq_eq_false_iff_ne, Bool.and_eq_true, Bool.or_eq_true, Bool.and_eq_false_iff, Bool.or_eq_false_iff, ge_iff_le, gt_iff_lt, Int.not_lt, Int.not_le, ne_eq, Decidable.not_not, bne_eq_false_iff_eq] at hc1
      refine r1 ?_
      refine s1 4 80 1 rfl rfl rfl rfl rfl rfl trivial ?_
      refine e1 88 rfl ?_
      refine keep [4] rfl ?_
      refine W_ret ?_
      refine tr ?_
      exact out1 4 (SV.b (mayB k l)) (π := []) (hout := []) Try.results5 rfl (by show SV.b _ = SV.b _; refine congrArg SV.b (Bool.eq_iff_iff.2 ?_); cases hq : l.any (oddB k) <;> simp [mayB, inB, hq] at * <;> omega) rfl rfl trivial ⟨rfl, rfl⟩
    · skip
      try simp only [decide_eq_true_eq, decide_eq_false_iff_not, Bool.not_eq_true', Bool.not_eq_false', beq_iff_eq, bne_iff_ne, beq_eq_false_iff_ne, Bool.and_eq_true, Bool.or_eq_true, Bool.and_eq_false_iff, Bool.or_eq_false_iff, ge_iff_le, gt_iff_lt, Int.not_lt, Int.not_le, ne_eq, Decidable.not_not, bne_eq_false_iff_eq] at hc1
      refine W_skip ?_
      refine tn ?_
      refine r1 ?_
      refine s1 13 80 1 rfl rfl rfl rfl rfl rfl trivial ?_
      refine s1 14 88 2 rfl rfl rfl rfl rfl rfl trivial ?_
      refine c1 (contains_any k l hl) [0] [0] 15 96 3 rfl rfl rfl rfl rfl rfl rfl rfl Try.func10 rfl rfl rfl rfl ⟨rfl, trivial⟩ rfl rfl ?_
      refine s1 16 104 4 rfl rfl rfl rfl rfl rfl trivial ?_
      refine s1 4 112 5 rfl rfl rfl rfl rfl rfl trivial ?_
      refine e1 120 rfl ?_
      refine keep [4] rfl ?_
      refine W_ret ?_
      exact out1 4 (SV.b (mayB k l)) (π := []) (hout := []) Try.results5 rfl (by show SV.b _ = SV.b _; refine congrArg SV.b (Bool.eq_iff_iff.2 ?_); cases hq : l.any (oddB k) <;> simp [mayB, inB, hq] at * <;> omega) rfl rfl trivial ⟨rfl, rfl⟩
  · skip
    refine ask 8 rfl (fun hg1_8 => ?_) (fun hg1_8 => ?_)
    · skip
      try simp only [decide_eq_true_eq, decide_eq_false_iff_not, Bool.not_eq_true', Bool.not_eq_false', beq_iff_eq, bne_iff_ne, beq_eq_false_iff_ne, Bool.and_eq_true, Bool.or_eq_true, Bool.and_eq_false_iff, Bool.or_eq_false_iff, ge_iff_le, gt_iff_lt, Int.not_lt, Int.not_le, ne_eq, Decidable.not_not, bne_eq_false_iff_eq] at hg1_8
      refine g0 3 false 8 9 5 rfl rfl rfl rfl rfl rfl ?_
      refine g0 3 false 8 10 6 rfl rfl rfl rfl rfl rfl ?_
      refine g0 3 false 8 11 7 rfl rfl rfl rfl rfl rfl ?_
      refine s1 12 72 8 rfl rfl rfl rfl rfl rfl trivial ?_
      exact joinEnd hj1_7 rfl (by clear hj1_7; refine Bool.eq_iff_iff.2 ?_; simp [inB] at *; omega) ⟨rfl, rfl, trivial⟩
    · skip
      try simp only [decide_eq_true_eq, decide_eq_false_iff_not, Bool.not_eq_true', Bool.not_eq_false', beq_iff_eq, bne_iff_ne, beq_eq_false_iff_ne, Bool.and_eq_true, Bool.or_eq_true, Bool.and_eq_false_iff, Bool.or_eq_false_iff, ge_iff_le, gt_iff_lt, Int.not_lt, Int.not_le, ne_eq, Decidable.not_not, bne_eq_false_iff_eq] at hg1_8
      refine g1 3 false 8 9 5 rfl rfl rfl rfl rfl ?_
      refine s1 9 48 5 rfl rfl rfl rfl rfl rfl trivial ?_
      refine g1 3 false 8 10 6 rfl rfl rfl rfl rfl ?_
      refine s1 10 56 6 rfl rfl rfl rfl rfl rfl (by first | trivial | omega | (simp only [List.length_map, List.length_append, List.length_cons, List.length_nil] at *; omega)) ?_
      refine g1 3 false 8 11 7 rfl rfl rfl rfl rfl ?_
      refine s1 11 64 7 rfl rfl rfl rfl rfl rfl (by first | trivial | omega | (simp only [List.length_map, List.length_append, List.length_cons, List.length_nil] at *; omega)) ?_
      refine s1 12 72 8 rfl rfl rfl rfl rfl rfl trivial ?_
      exact joinEnd hj1_7 rfl (by clear hj1_7; refine Bool.eq_iff_iff.2 ?_; simp [inB] at *; omega) ⟨rfl, rfl, trivial⟩


theorem any_at {l : List Act} {p : Act → Bool} {n : Nat} (h : n < l.length) (hp : p (l.getD n default) = true) : l.any p = true := by
  rw [getD_lt h] at hp
  rw [List.any_eq_true]; exact ⟨_, List.getElem_mem h, hp⟩
theorem any_none {l : List Act} {p : Act → Bool} (hn : ∀ j, j < l.length → p (l.getD j default) = false) : l.any p = false := by
  rw [List.any_eq_false]
  intro x hx
  obtain ⟨j, hj, rfl⟩ := List.mem_iff_getElem.1 hx
  have := hn j hj; rw [getD_lt hj] at this; simp [this]

theorem history_any (k : Int) (l : List Act) (hl : l.length ≤ 9223372036854775807) : Spec Try.prog G0 6 [SV.i k, actsV l] [] (fun r ho => r = SV.b (mayB k l) ∧ ho = []) := by
  refine start 78 0 Try.func6 rfl rfl rfl rfl ?_
  refine r1 ?_
  refine s1 4 0 1 rfl rfl rfl rfl rfl rfl trivial ?_
  refine e1 8 rfl ?_
  refine keep [0, 1] rfl ?_
  refine W_seq ?_
  refine r1 ?_
  refine s1 7 8 1 rfl rfl rfl rfl rfl rfl trivial ?_
  refine s1 8 16 2 rfl rfl rfl rfl rfl rfl (by first | trivial | omega | (simp only [List.length_map, List.length_append, List.length_cons, List.length_nil] at *; omega)) ?_
  refine s1 9 24 3 rfl rfl rfl rfl rfl rfl trivial ?_
  refine ask 9 rfl (fun hg1_9 => ?_) (fun hg1_9 => ?_)
  · skip
    try simp only [decide_eq_true_eq, decide_eq_false_iff_not, Bool.not_eq_true', Bool.not_eq_false', beq_iff_eq, bne_iff_ne, beq_eq_false_iff_ne, Bool.and_eq_true, Bool.or_eq_true, Bool.and_eq_false_iff, Bool.or_eq_false_iff, ge_iff_le, gt_iff_lt, Int.not_lt, Int.not_le, ne_eq, Decidable.not_not, bne_eq_false_iff_eq] at hg1_9
    refine g0 2 false 9 10 4 rfl rfl rfl rfl rfl rfl ?_
    refine g0 2 false 9 11 5 rfl rfl rfl rfl rfl rfl ?_
    refine s1 12 48 6 rfl rfl rfl rfl rfl rfl trivial ?_
    refine s1 13 56 7 rfl rfl rfl rfl rfl rfl trivial ?_
    refine g0 6 false 13 14 8 rfl rfl rfl rfl rfl rfl ?_
    refine g0 6 false 13 15 9 rfl rfl rfl rfl rfl rfl ?_
    refine g0 6 false 13 16 10 rfl rfl rfl rfl rfl rfl ?_
    refine s1 17 88 11 rfl rfl rfl rfl rfl rfl trivial ?_
    refine e1 96 rfl ?_
    refine keep [0, 1, 17] rfl ?_
    refine q1 rfl (fun hc1 => ?_) (fun hc1 => ?_)
    · skip
      try simp only [decide_eq_true_eq, decide_eq_false_iff_not, Bool.not_eq_true', Bool.not_eq_false', beq_iff_eq, bne_iff_ne, beq_eq_false_iff_ne, Bool.and_eq_true, Bool.or_eq_true, Bool.and_eq_false_iff, Bool.or_eq_false_iff, ge_iff_le, gt_iff_lt, Int.not_lt, Int.not_le, ne_eq, Decidable.not_not, bne_eq_false_iff_eq] at hc1
      refine r1 ?_
      refine s1 4 96 1 rfl rfl rfl rfl rfl rfl trivial ?_
      refine e1 104 rfl ?_
      refine keep [4] rfl ?_
      refine W_ret ?_
      refine tr ?_
      exact out1 4 (SV.b (mayB k l)) (π := []) (hout := []) Try.results6 rfl (by show SV.b _ = SV.b _; refine congrArg SV.b (Bool.eq_iff_iff.2 ?_); simp [mayB, inB] at *; omega) rfl rfl trivial ⟨rfl, rfl⟩
    · skip
      exact absurd hc1 (by decide)
  · skip
    try simp only [decide_eq_true_eq, decide_eq_false_iff_not, Bool.not_eq_true', Bool.not_eq_false', beq_iff_eq, bne_iff_ne, beq_eq_false_iff_ne, Bool.and_eq_true, Bool.or_eq_true, Bool.and_eq_false_iff, Bool.or_eq_false_iff, ge_iff_le, gt_iff_lt, Int.not_lt, Int.not_le, ne_eq, Decidable.not_not, bne_eq_false_iff_eq] at hg1_9
    refine g1 2 false 9 10 4 rfl rfl rfl rfl rfl ?_
    refine s1 10 32 4 rfl rfl rfl rfl rfl rfl trivial ?_
    refine g1 2 false 9 11 5 rfl rfl rfl rfl rfl ?_
    refine s1 11 40 5 rfl rfl rfl rfl rfl rfl (by first | trivial | omega | (simp only [List.length_map, List.length_append, List.length_cons, List.length_nil] at *; omega)) ?_
    refine s1 12 48 6 rfl rfl rfl rfl rfl rfl trivial ?_
    refine s1 13 56 7 rfl rfl rfl rfl rfl rfl trivial ?_
    refine ask 13 rfl (fun hg1_13 => ?_) (fun hg1_13 => ?_)
    · skip
      try simp only [decide_eq_true_eq, decide_eq_false_iff_not, Bool.not_eq_true', Bool.not_eq_false', beq_iff_eq, bne_iff_ne, beq_eq_false_iff_ne, Bool.and_eq_true, Bool.or_eq_true, Bool.and_eq_false_iff, Bool.or_eq_false_iff, ge_iff_le, gt_iff_lt, Int.not_lt, Int.not_le, ne_eq, Decidable.not_not, bne_eq_false_iff_eq] at hg1_13
      refine g0 6 false 13 14 8 rfl rfl rfl rfl rfl rfl ?_
      refine g0 6 false 13 15 9 rfl rfl rfl rfl rfl rfl ?_
      refine g0 6 false 13 16 10 rfl rfl rfl rfl rfl rfl ?_
      refine s1 17 88 11 rfl rfl rfl rfl rfl rfl trivial ?_
      refine e1 96 rfl ?_
      refine keep [0, 1, 17] rfl ?_
      refine q1 rfl (fun hc1 => ?_) (fun hc1 => ?_)
      · skip
        try simp only [decide_eq_true_eq, decide_eq_false_iff_not, Bool.not_eq_true', Bool.not_eq_false', beq_iff_eq, bne_iff_ne, beq_eq_false_iff_ne, Bool.and_eq_true, Bool.or_eq_true, Bool.and_eq_false_iff, Bool.or_eq_false_iff, ge_iff_le, gt_iff_lt, Int.not_lt, Int.not_le, ne_eq, Decidable.not_not, bne_eq_false_iff_eq] at hc1
        refine r1 ?_
        refine s1 4 96 1 rfl rfl rfl rfl rfl rfl trivial ?_
        refine e1 104 rfl ?_
        refine keep [4] rfl ?_
        refine W_ret ?_
        refine tr ?_
        exact out1 4 (SV.b (mayB k l)) (π := []) (hout := []) Try.results6 rfl (by show SV.b _ = SV.b _; refine congrArg SV.b (Bool.eq_iff_iff.2 ?_); simp [mayB, inB] at *; omega) rfl rfl trivial ⟨rfl, rfl⟩
      · skip
        exact absurd hc1 (by decide)
    · skip
      try simp only [decide_eq_true_eq, decide_eq_false_iff_not, Bool.not_eq_true', Bool.not_eq_false', beq_iff_eq, bne_iff_ne, beq_eq_false_iff_ne, Bool.and_eq_true, Bool.or_eq_true, Bool.and_eq_false_iff, Bool.or_eq_false_iff, ge_iff_le, gt_iff_lt, Int.not_lt, Int.not_le, ne_eq, Decidable.not_not, bne_eq_false_iff_eq] at hg1_13
      refine g1 6 false 13 14 8 rfl rfl rfl rfl rfl ?_
      refine s1 14 64 8 rfl rfl rfl rfl rfl rfl trivial ?_
      refine g1 6 false 13 15 9 rfl rfl rfl rfl rfl ?_
      refine s1 15 72 9 rfl rfl rfl rfl rfl rfl (by first | trivial | omega | (simp only [List.length_map, List.length_append, List.length_cons, List.length_nil] at *; omega)) ?_
      refine g1 6 false 13 16 10 rfl rfl rfl rfl rfl ?_
      refine s1 16 80 10 rfl rfl rfl rfl rfl rfl (by first | trivial | omega | (simp only [List.length_map, List.length_append, List.length_cons, List.length_nil] at *; omega)) ?_
      refine s1 17 88 11 rfl rfl rfl rfl rfl rfl trivial ?_
      refine e1 96 rfl ?_
      refine keep [0, 1, 17] rfl ?_
      refine q1 rfl (fun hc1 => ?_) (fun hc1 => ?_)
      · skip
        try simp only [decide_eq_true_eq, decide_eq_false_iff_not, Bool.not_eq_true', Bool.not_eq_false', beq_iff_eq, bne_iff_ne, beq_eq_false_iff_ne, Bool.and_eq_true, Bool.or_eq_true, Bool.and_eq_false_iff, Bool.or_eq_false_iff, ge_iff_le, gt_iff_lt, Int.not_lt, Int.not_le, ne_eq, Decidable.not_not, bne_eq_false_iff_eq] at hc1
        refine r1 ?_
        refine s1 4 96 1 rfl rfl rfl rfl rfl rfl trivial ?_
        refine e1 104 rfl ?_
        refine keep [4] rfl ?_
        refine W_ret ?_
        refine tr ?_
        exact out1 4 (SV.b (mayB k l)) (π := []) (hout := []) Try.results6 rfl (by show SV.b _ = SV.b _; refine congrArg SV.b (Bool.eq_iff_iff.2 ?_); simp [mayB, inB] at *; omega) rfl rfl trivial ⟨rfl, rfl⟩
      · skip
        try simp only [decide_eq_true_eq, decide_eq_false_iff_not, Bool.not_eq_true', Bool.not_eq_false', beq_iff_eq, bne_iff_ne, beq_eq_false_iff_ne, Bool.and_eq_true, Bool.or_eq_true, Bool.and_eq_false_iff, Bool.or_eq_false_iff, ge_iff_le, gt_iff_lt, Int.not_lt, Int.not_le, ne_eq, Decidable.not_not, bne_eq_false_iff_eq] at hc1
        refine W_skip ?_
        refine tn ?_
        refine W_seq ?_
        refine r1 ?_
        refine s1 18 96 1 rfl rfl rfl rfl rfl rfl trivial ?_
        refine s1 19 104 2 rfl rfl rfl rfl rfl rfl (by first | trivial | omega | (simp only [List.length_map, List.length_append, List.length_cons, List.length_nil] at *; omega)) ?_
        refine s1 20 112 3 rfl rfl rfl rfl rfl rfl trivial ?_
        refine e1 120 rfl ?_
        refine keep [0, 18, 19, 20] rfl ?_
        refine W_block ?_
        refine loop (α := Nat) 0 (fun n => [(0, SV.i k), (18, actsV l), (19, SV.i l.length), (20, SV.i n)]) (fun n => []) (fun n => n ≤ l.length ∧ ∀ j, j < n → oddB k (l.getD j default) = false) (fun n => l.length - n) (0) [] (fun _ => rfl) ⟨Nat.zero_le _, fun j hj => by omega⟩ rfl ⟨rfl, rfl, rfl, rfl, trivial⟩ trivial (fun n hx => ?_)
        obtain ⟨hn, hno⟩ := hx
        refine r1 ?_
        refine s1 21 0 1 rfl rfl rfl rfl rfl rfl (by first | trivial | omega | (simp only [List.length_map, List.length_append, List.length_cons, List.length_nil] at *; omega)) ?_
        refine e1 8 rfl ?_
        refine keep [0, 18, 19, 20, 21] rfl ?_
        refine W_seq ?_
        refine q1 rfl (fun hc4 => ?_) (fun hc4 => ?_)
        · skip
          try simp only [decide_eq_true_eq, decide_eq_false_iff_not, Bool.not_eq_true', Bool.not_eq_false', beq_iff_eq, bne_iff_ne, beq_eq_false_iff_ne, Bool.and_eq_true, Bool.or_eq_true, Bool.and_eq_false_iff, Bool.or_eq_false_iff, ge_iff_le, gt_iff_lt, Int.not_lt, Int.not_le, ne_eq, Decidable.not_not, bne_eq_false_iff_eq] at hc4
          refine W_skip ?_
          refine tn ?_
          refine W_seq ?_
          refine W_block ?_
          refine r1 ?_
          refine s1 22 8 1 rfl rfl rfl rfl rfl rfl (by first | trivial | omega | (simp only [List.length_map, List.length_append, List.length_cons, List.length_nil] at *; omega)) ?_
          refine s1 23 16 2 rfl rfl rfl rfl rfl rfl (by first | trivial | omega | (simp only [List.length_map, List.length_append, List.length_cons, List.length_nil] at *; omega)) ?_
          refine s1 6 24 3 rfl rfl rfl rfl rfl rfl trivial ?_
          refine s0 32 4 rfl rfl rfl rfl rfl (by first | trivial | omega | (simp only [List.length_map, List.length_append, List.length_cons, List.length_nil] at *; omega)) ?_
          refine e1 40 rfl ?_
          refine keep [0, 6, 18, 19, 20] rfl ?_
          refine W_seq ?_
          refine r1 ?_
          refine s1 24 40 1 rfl rfl rfl rfl rfl rfl trivial ?_
          refine s1 25 48 2 rfl rfl rfl rfl rfl rfl (by first | trivial | omega | (simp only [List.length_map, List.length_append, List.length_cons, List.length_nil] at *; omega)) ?_
          refine s1 26 56 3 rfl rfl rfl rfl rfl rfl (by first | trivial | omega | (simp only [List.length_map, List.length_append, List.length_cons, List.length_nil] at *; omega)) ?_
          refine s1 27 64 4 rfl rfl rfl rfl rfl rfl trivial ?_
          refine ask 27 rfl (fun hg6_27 => ?_) (fun hg6_27 => ?_)
          · skip
            try simp only [decide_eq_true_eq, decide_eq_false_iff_not, Bool.not_eq_true', Bool.not_eq_false', beq_iff_eq, bne_iff_ne, beq_eq_false_iff_ne, Bool.and_eq_true, Bool.or_eq_true, Bool.and_eq_false_iff, Bool.or_eq_false_iff, ge_iff_le, gt_iff_lt, Int.not_lt, Int.not_le, ne_eq, Decidable.not_not, bne_eq_false_iff_eq] at hg6_27
            refine g0 3 false 27 28 5 rfl rfl rfl rfl rfl rfl ?_
            refine g0 3 false 27 29 6 rfl rfl rfl rfl rfl rfl ?_
            refine g0 3 false 27 30 7 rfl rfl rfl rfl rfl rfl ?_
            refine s1 31 96 8 rfl rfl rfl rfl rfl rfl trivial ?_
            refine s1 32 104 9 rfl rfl rfl rfl rfl rfl trivial ?_
            refine g0 8 false 32 33 10 rfl rfl rfl rfl rfl rfl ?_
            refine g0 8 false 32 34 11 rfl rfl rfl rfl rfl rfl ?_
            refine g0 8 false 32 35 12 rfl rfl rfl rfl rfl rfl ?_
            refine s1 36 136 13 rfl rfl rfl rfl rfl rfl trivial ?_
            refine s1 37 144 14 rfl rfl rfl rfl rfl rfl trivial ?_
            refine g0 13 false 37 38 15 rfl rfl rfl rfl rfl rfl ?_
            refine g0 13 false 37 39 16 rfl rfl rfl rfl rfl rfl ?_
            refine g0 13 false 37 40 17 rfl rfl rfl rfl rfl rfl ?_
            refine g0 13 false 37 41 18 rfl rfl rfl rfl rfl rfl ?_
            refine g0 13 false 37 42 19 rfl rfl rfl rfl rfl rfl ?_
            refine g0 13 false 37 43 20 rfl rfl rfl rfl rfl rfl ?_
            refine gz 19 true 43 44 21 rfl rfl rfl rfl rfl rfl ?_
            refine gz 19 true 43 45 22 rfl rfl rfl rfl rfl rfl ?_
            refine gz 19 true 43 46 23 rfl rfl rfl rfl rfl rfl ?_
            refine g0 13 false 37 47 24 rfl rfl rfl rfl rfl rfl ?_
            refine s1 48 232 25 rfl rfl rfl rfl rfl rfl trivial ?_
            refine e1 240 rfl ?_
            refine keep [0, 6, 18, 19, 20, 48] rfl ?_
            refine q1 rfl (fun hc6 => ?_) (fun hc6 => ?_)
            · skip
              try simp only [decide_eq_true_eq, decide_eq_false_iff_not, Bool.not_eq_true', Bool.not_eq_false', beq_iff_eq, bne_iff_ne, beq_eq_false_iff_ne, Bool.and_eq_true, Bool.or_eq_true, Bool.and_eq_false_iff, Bool.or_eq_false_iff, ge_iff_le, gt_iff_lt, Int.not_lt, Int.not_le, ne_eq, Decidable.not_not, bne_eq_false_iff_eq] at hc6
              refine r1 ?_
              refine s1 4 240 1 rfl rfl rfl rfl rfl rfl trivial ?_
              refine e1 248 rfl ?_
              refine keep [4] rfl ?_
              refine W_ret ?_
              refine tr ?_
              refine br ?_
              refine tr ?_
              refine tr ?_
              refine br ?_
              refine tr ?_
              exact out1 4 (SV.b (mayB k l)) (π := []) (hout := []) Try.results6 rfl (by have hb : oddB k (l.getD n default) = true := (by clear hno; simp only [Int.toNat_natCast] at *; generalize l.getD n default = a at *; cases hp : a.p <;> simp [oddB, inB, heldB, hp] at * <;> omega); have := any_at (by omega) hb; show SV.b _ = SV.b _; refine congrArg SV.b ?_; simp [mayB, this]) rfl rfl trivial ⟨rfl, rfl⟩
            · skip
              exact absurd hc6 (by decide)
          · skip
            try simp only [decide_eq_true_eq, decide_eq_false_iff_not, Bool.not_eq_true', Bool.not_eq_false', beq_iff_eq, bne_iff_ne, beq_eq_false_iff_ne, Bool.and_eq_true, Bool.or_eq_true, Bool.and_eq_false_iff, Bool.or_eq_false_iff, ge_iff_le, gt_iff_lt, Int.not_lt, Int.not_le, ne_eq, Decidable.not_not, bne_eq_false_iff_eq] at hg6_27
            refine g1 3 false 27 28 5 rfl rfl rfl rfl rfl ?_
            refine s1 28 72 5 rfl rfl rfl rfl rfl rfl trivial ?_
            refine g1 3 false 27 29 6 rfl rfl rfl rfl rfl ?_
            refine s1 29 80 6 rfl rfl rfl rfl rfl rfl (by first | trivial | omega | (simp only [List.length_map, List.length_append, List.length_cons, List.length_nil] at *; omega)) ?_
            refine g1 3 false 27 30 7 rfl rfl rfl rfl rfl ?_
            refine s1 30 88 7 rfl rfl rfl rfl rfl rfl (by first | trivial | omega | (simp only [List.length_map, List.length_append, List.length_cons, List.length_nil] at *; omega)) ?_
            refine s1 31 96 8 rfl rfl rfl rfl rfl rfl trivial ?_
            refine s1 32 104 9 rfl rfl rfl rfl rfl rfl trivial ?_
            refine ask 32 rfl (fun hg6_32 => ?_) (fun hg6_32 => ?_)
            · skip
              try simp only [decide_eq_true_eq, decide_eq_false_iff_not, Bool.not_eq_true', Bool.not_eq_false', beq_iff_eq, bne_iff_ne, beq_eq_false_iff_ne, Bool.and_eq_true, Bool.or_eq_true, Bool.and_eq_false_iff, Bool.or_eq_false_iff, ge_iff_le, gt_iff_lt, Int.not_lt, Int.not_le, ne_eq, Decidable.not_not, bne_eq_false_iff_eq] at hg6_32
              refine g0 8 false 32 33 10 rfl rfl rfl rfl rfl rfl ?_
              refine g0 8 false 32 34 11 rfl rfl rfl rfl rfl rfl ?_
              refine g0 8 false 32 35 12 rfl rfl rfl rfl rfl rfl ?_
              refine s1 36 136 13 rfl rfl rfl rfl rfl rfl trivial ?_
              refine s1 37 144 14 rfl rfl rfl rfl rfl rfl trivial ?_
              refine g0 13 false 37 38 15 rfl rfl rfl rfl rfl rfl ?_
              refine g0 13 false 37 39 16 rfl rfl rfl rfl rfl rfl ?_
              refine g0 13 false 37 40 17 rfl rfl rfl rfl rfl rfl ?_
              refine g0 13 false 37 41 18 rfl rfl rfl rfl rfl rfl ?_
              refine g0 13 false 37 42 19 rfl rfl rfl rfl rfl rfl ?_
              refine g0 13 false 37 43 20 rfl rfl rfl rfl rfl rfl ?_
              refine gz 19 true 43 44 21 rfl rfl rfl rfl rfl rfl ?_
              refine gz 19 true 43 45 22 rfl rfl rfl rfl rfl rfl ?_
              refine gz 19 true 43 46 23 rfl rfl rfl rfl rfl rfl ?_
              refine g0 13 false 37 47 24 rfl rfl rfl rfl rfl rfl ?_
              refine s1 48 232 25 rfl rfl rfl rfl rfl rfl trivial ?_
              refine e1 240 rfl ?_
              refine keep [0, 6, 18, 19, 20, 48] rfl ?_
              refine q1 rfl (fun hc6 => ?_) (fun hc6 => ?_)
              · skip
                try simp only [decide_eq_true_eq, decide_eq_false_iff_not, Bool.not_eq_true', Bool.not_eq_false', beq_iff_eq, bne_iff_ne, beq_eq_false_iff_ne, Bool.and_eq_true, Bool.or_eq_true, Bool.and_eq_false_iff, Bool.or_eq_false_iff, ge_iff_le, gt_iff_lt, Int.not_lt, Int.not_le, ne_eq, Decidable.not_not, bne_eq_false_iff_eq] at hc6
                refine r1 ?_
                refine s1 4 240 1 rfl rfl rfl rfl rfl rfl trivial ?_
                refine e1 248 rfl ?_
                refine keep [4] rfl ?_
                refine W_ret ?_
                refine tr ?_
                refine br ?_
                refine tr ?_
                refine tr ?_
                refine br ?_
                refine tr ?_
                exact out1 4 (SV.b (mayB k l)) (π := []) (hout := []) Try.results6 rfl (by have hb : oddB k (l.getD n default) = true := (by clear hno; simp only [Int.toNat_natCast] at *; generalize l.getD n default = a at *; cases hp : a.p <;> simp [oddB, inB, heldB, hp] at * <;> omega); have := any_at (by omega) hb; show SV.b _ = SV.b _; refine congrArg SV.b ?_; simp [mayB, this]) rfl rfl trivial ⟨rfl, rfl⟩
              · skip
                exact absurd hc6 (by decide)
            · skip
              try simp only [decide_eq_true_eq, decide_eq_false_iff_not, Bool.not_eq_true', Bool.not_eq_false', beq_iff_eq, bne_iff_ne, beq_eq_false_iff_ne, Bool.and_eq_true, Bool.or_eq_true, Bool.and_eq_false_iff, Bool.or_eq_false_iff, ge_iff_le, gt_iff_lt, Int.not_lt, Int.not_le, ne_eq, Decidable.not_not, bne_eq_false_iff_eq] at hg6_32
              refine g1 8 false 32 33 10 rfl rfl rfl rfl rfl ?_
              refine s1 33 112 10 rfl rfl rfl rfl rfl rfl trivial ?_
              refine g1 8 false 32 34 11 rfl rfl rfl rfl rfl ?_
              refine s1 34 120 11 rfl rfl rfl rfl rfl rfl (by first | trivial | omega | (simp only [List.length_map, List.length_append, List.length_cons, List.length_nil] at *; omega)) ?_
              refine g1 8 false 32 35 12 rfl rfl rfl rfl rfl ?_
              refine s1 35 128 12 rfl rfl rfl rfl rfl rfl (by first | trivial | omega | (simp only [List.length_map, List.length_append, List.length_cons, List.length_nil] at *; omega)) ?_
              refine s1 36 136 13 rfl rfl rfl rfl rfl rfl trivial ?_
              refine s1 37 144 14 rfl rfl rfl rfl rfl rfl trivial ?_
              refine ask 37 rfl (fun hg6_37 => ?_) (fun hg6_37 => ?_)
              · skip
                try simp only [decide_eq_true_eq, decide_eq_false_iff_not, Bool.not_eq_true', Bool.not_eq_false', beq_iff_eq, bne_iff_ne, beq_eq_false_iff_ne, Bool.and_eq_true, Bool.or_eq_true, Bool.and_eq_false_iff, Bool.or_eq_false_iff, ge_iff_le, gt_iff_lt, Int.not_lt, Int.not_le, ne_eq, Decidable.not_not, bne_eq_false_iff_eq] at hg6_37
                refine g0 13 false 37 38 15 rfl rfl rfl rfl rfl rfl ?_
                refine g0 13 false 37 39 16 rfl rfl rfl rfl rfl rfl ?_
                refine g0 13 false 37 40 17 rfl rfl rfl rfl rfl rfl ?_
                refine g0 13 false 37 41 18 rfl rfl rfl rfl rfl rfl ?_
                refine g0 13 false 37 42 19 rfl rfl rfl rfl rfl rfl ?_
                refine g0 13 false 37 43 20 rfl rfl rfl rfl rfl rfl ?_
                refine gz 19 true 43 44 21 rfl rfl rfl rfl rfl rfl ?_
                refine gz 19 true 43 45 22 rfl rfl rfl rfl rfl rfl ?_
                refine gz 19 true 43 46 23 rfl rfl rfl rfl rfl rfl ?_
                refine g0 13 false 37 47 24 rfl rfl rfl rfl rfl rfl ?_
                refine s1 48 232 25 rfl rfl rfl rfl rfl rfl trivial ?_
                refine e1 240 rfl ?_
                refine keep [0, 6, 18, 19, 20, 48] rfl ?_
                refine q1 rfl (fun hc6 => ?_) (fun hc6 => ?_)
                · skip
                  try simp only [decide_eq_true_eq, decide_eq_false_iff_not, Bool.not_eq_true', Bool.not_eq_false', beq_iff_eq, bne_iff_ne, beq_eq_false_iff_ne, Bool.and_eq_true, Bool.or_eq_true, Bool.and_eq_false_iff, Bool.or_eq_false_iff, ge_iff_le, gt_iff_lt, Int.not_lt, Int.not_le, ne_eq, Decidable.not_not, bne_eq_false_iff_eq] at hc6
                  refine r1 ?_
                  refine s1 4 240 1 rfl rfl rfl rfl rfl rfl trivial ?_
                  refine e1 248 rfl ?_
                  refine keep [4] rfl ?_
                  refine W_ret ?_
                  refine tr ?_
                  refine br ?_
                  refine tr ?_
                  refine tr ?_
                  refine br ?_
                  refine tr ?_
                  exact out1 4 (SV.b (mayB k l)) (π := []) (hout := []) Try.results6 rfl (by have hb : oddB k (l.getD n default) = true := (by clear hno; simp only [Int.toNat_natCast] at *; generalize l.getD n default = a at *; cases hp : a.p <;> simp [oddB, inB, heldB, hp] at * <;> omega); have := any_at (by omega) hb; show SV.b _ = SV.b _; refine congrArg SV.b ?_; simp [mayB, this]) rfl rfl trivial ⟨rfl, rfl⟩
                · skip
                  exact absurd hc6 (by decide)
              · skip
                try simp only [decide_eq_true_eq, decide_eq_false_iff_not, Bool.not_eq_true', Bool.not_eq_false', beq_iff_eq, bne_iff_ne, beq_eq_false_iff_ne, Bool.and_eq_true, Bool.or_eq_true, Bool.and_eq_false_iff, Bool.or_eq_false_iff, ge_iff_le, gt_iff_lt, Int.not_lt, Int.not_le, ne_eq, Decidable.not_not, bne_eq_false_iff_eq] at hg6_37
                refine g1 13 false 37 38 15 rfl rfl rfl rfl rfl ?_
                refine s1 38 152 15 rfl rfl rfl rfl rfl rfl trivial ?_
                refine g1 13 false 37 39 16 rfl rfl rfl rfl rfl ?_
                refine s1 39 160 16 rfl rfl rfl rfl rfl rfl (by first | trivial | omega | (simp only [List.length_map, List.length_append, List.length_cons, List.length_nil] at *; omega)) ?_
                refine g1 13 false 37 40 17 rfl rfl rfl rfl rfl ?_
                refine s1 40 168 17 rfl rfl rfl rfl rfl rfl trivial ?_
                refine g1 13 false 37 41 18 rfl rfl rfl rfl rfl ?_
                refine s1 41 176 18 rfl rfl rfl rfl rfl rfl (by first | trivial | omega | (simp only [List.length_map, List.length_append, List.length_cons, List.length_nil] at *; omega)) ?_
                refine g1 13 false 37 42 19 rfl rfl rfl rfl rfl ?_
                refine s1 42 184 19 rfl rfl rfl rfl rfl rfl (by first | trivial | omega | (simp only [List.length_map, List.length_append, List.length_cons, List.length_nil] at *; omega)) ?_
                refine g1 13 false 37 43 20 rfl rfl rfl rfl rfl ?_
                refine s1 43 192 20 rfl rfl rfl rfl rfl rfl trivial ?_
                refine ask 43 rfl (fun hg6_43 => ?_) (fun hg6_43 => ?_)
                · skip
                  try simp only [decide_eq_true_eq, decide_eq_false_iff_not, Bool.not_eq_true', Bool.not_eq_false', beq_iff_eq, bne_iff_ne, beq_eq_false_iff_ne, Bool.and_eq_true, Bool.or_eq_true, Bool.and_eq_false_iff, Bool.or_eq_false_iff, ge_iff_le, gt_iff_lt, Int.not_lt, Int.not_le, ne_eq, Decidable.not_not, bne_eq_false_iff_eq] at hg6_43
                  refine g1 19 true 43 44 21 rfl rfl rfl rfl rfl ?_
                  refine s1 44 200 21 rfl rfl rfl rfl rfl rfl trivial ?_
                  refine g1 19 true 43 45 22 rfl rfl rfl rfl rfl ?_
                  refine s1 45 208 22 rfl rfl rfl rfl rfl rfl (by first | trivial | omega | (simp only [List.length_map, List.length_append, List.length_cons, List.length_nil] at *; omega)) ?_
                  refine g1 19 true 43 46 23 rfl rfl rfl rfl rfl ?_
                  refine s1 46 216 23 rfl rfl rfl rfl rfl rfl (by first | trivial | omega | (simp only [List.length_map, List.length_append, List.length_cons, List.length_nil] at *; omega)) ?_
                  refine g1 13 false 37 47 24 rfl rfl rfl rfl rfl ?_
                  refine s1 47 224 24 rfl rfl rfl rfl rfl rfl trivial ?_
                  refine s1 48 232 25 rfl rfl rfl rfl rfl rfl trivial ?_
                  refine e1 240 rfl ?_
                  refine keep [0, 6, 18, 19, 20, 48] rfl ?_
                  refine q1 rfl (fun hc6 => ?_) (fun hc6 => ?_)
                  · skip
                    try simp only [decide_eq_true_eq, decide_eq_false_iff_not, Bool.not_eq_true', Bool.not_eq_false', beq_iff_eq, bne_iff_ne, beq_eq_false_iff_ne, Bool.and_eq_true, Bool.or_eq_true, Bool.and_eq_false_iff, Bool.or_eq_false_iff, ge_iff_le, gt_iff_lt, Int.not_lt, Int.not_le, ne_eq, Decidable.not_not, bne_eq_false_iff_eq] at hc6
                    refine r1 ?_
                    refine s1 4 240 1 rfl rfl rfl rfl rfl rfl trivial ?_
                    refine e1 248 rfl ?_
                    refine keep [4] rfl ?_
                    refine W_ret ?_
                    refine tr ?_
                    refine br ?_
                    refine tr ?_
                    refine tr ?_
                    refine br ?_
                    refine tr ?_
                    exact out1 4 (SV.b (mayB k l)) (π := []) (hout := []) Try.results6 rfl (by have hb : oddB k (l.getD n default) = true := (by clear hno; simp only [Int.toNat_natCast] at *; generalize l.getD n default = a at *; cases hp : a.p <;> simp [oddB, inB, heldB, hp] at * <;> omega); have := any_at (by omega) hb; show SV.b _ = SV.b _; refine congrArg SV.b ?_; simp [mayB, this]) rfl rfl trivial ⟨rfl, rfl⟩
                  · skip
                    try simp only [decide_eq_true_eq, decide_eq_false_iff_not, Bool.not_eq_true', Bool.not_eq_false', beq_iff_eq, bne_iff_ne, beq_eq_false_iff_ne, Bool.and_eq_true, Bool.or_eq_true, Bool.and_eq_false_iff, Bool.or_eq_false_iff, ge_iff_le, gt_iff_lt, Int.not_lt, Int.not_le, ne_eq, Decidable.not_not, bne_eq_false_iff_eq] at hc6
                    refine W_skip ?_
                    refine tn ?_
                    refine W_seq ?_
                    refine r1 ?_
                    refine s1 49 240 1 rfl rfl rfl rfl rfl rfl trivial ?_
                    refine s1 50 248 2 rfl rfl rfl rfl rfl rfl (by first | trivial | omega | (simp only [List.length_map, List.length_append, List.length_cons, List.length_nil] at *; omega)) ?_
                    refine s1 51 256 3 rfl rfl rfl rfl rfl rfl (by first | trivial | omega | (simp only [List.length_map, List.length_append, List.length_cons, List.length_nil] at *; omega)) ?_
                    refine s1 52 264 4 rfl rfl rfl rfl rfl rfl trivial ?_
                    refine joinB 8 12 60 (!decide ((l.getD n default).y = 0) && !(decide (k = 2) && (l.getD n default).p)) [0, 6, 18, 19, 20, 52] [0, 6, 18, 19, 20] rfl rfl rfl rfl ?_ (fun hj8_11 => ?_)
                    · skip
                      refine e1 336 rfl ?_
                      refine keep [0, 6, 18, 19, 20, 60] rfl ?_
                      refine q1 rfl (fun hc8 => ?_) (fun hc8 => ?_)
                      · skip
                        try simp only [decide_eq_true_eq, decide_eq_false_iff_not, Bool.not_eq_true', Bool.not_eq_false', beq_iff_eq, bne_iff_ne, beq_eq_false_iff_ne, Bool.and_eq_true, Bool.or_eq_true, Bool.and_eq_false_iff, Bool.or_eq_false_iff, ge_iff_le, gt_iff_lt, Int.not_lt, Int.not_le, ne_eq, Decidable.not_not, bne_eq_false_iff_eq] at hc8
                        refine r1 ?_
                        refine s1 4 336 1 rfl rfl rfl rfl rfl rfl trivial ?_
                        refine e1 344 rfl ?_
                        refine keep [4] rfl ?_
                        refine W_ret ?_
                        refine tr ?_
                        refine br ?_
                        refine tr ?_
                        refine tr ?_
                        refine br ?_
                        refine tr ?_
                        exact out1 4 (SV.b (mayB k l)) (π := []) (hout := []) Try.results6 rfl (by have hb : oddB k (l.getD n default) = true := (by clear hno; simp only [Int.toNat_natCast] at *; generalize l.getD n default = a at *; cases hp : a.p <;> simp [oddB, inB, heldB, hp] at * <;> omega); have := any_at (by omega) hb; show SV.b _ = SV.b _; refine congrArg SV.b ?_; simp [mayB, this]) rfl rfl trivial ⟨rfl, rfl⟩
                      · skip
                        try simp only [decide_eq_true_eq, decide_eq_false_iff_not, Bool.not_eq_true', Bool.not_eq_false', beq_iff_eq, bne_iff_ne, beq_eq_false_iff_ne, Bool.and_eq_true, Bool.or_eq_true, Bool.and_eq_false_iff, Bool.or_eq_false_iff, ge_iff_le, gt_iff_lt, Int.not_lt, Int.not_le, ne_eq, Decidable.not_not, bne_eq_false_iff_eq] at hc8
                        refine W_skip ?_
                        refine tn ?_
                        refine r1 ?_
                        refine s1 61 336 1 rfl rfl rfl rfl rfl rfl trivial ?_
                        refine s1 62 344 2 rfl rfl rfl rfl rfl rfl (by first | trivial | omega | (simp only [List.length_map, List.length_append, List.length_cons, List.length_nil] at *; omega)) ?_
                        refine s1 63 352 3 rfl rfl rfl rfl rfl rfl trivial ?_
                        refine joinB 13 16 76 (decide (3 ≤ k) && (decide ((l.getD n default).v < -1) || (decide ((l.getD n default).v = -1) && (l.getD n default).p))) [0, 6, 18, 19, 20, 63] [0, 18, 19, 20] rfl rfl rfl rfl ?_ (fun hj10_15 => ?_)
                        · skip
                          refine e1 464 rfl ?_
                          refine keep [0, 18, 19, 20, 76] rfl ?_
                          refine q1 rfl (fun hc10 => ?_) (fun hc10 => ?_)
                          · skip
                            try simp only [decide_eq_true_eq, decide_eq_false_iff_not, Bool.not_eq_true', Bool.not_eq_false', beq_iff_eq, bne_iff_ne, beq_eq_false_iff_ne, Bool.and_eq_true, Bool.or_eq_true, Bool.and_eq_false_iff, Bool.or_eq_false_iff, ge_iff_le, gt_iff_lt, Int.not_lt, Int.not_le, ne_eq, Decidable.not_not, bne_eq_false_iff_eq] at hc10
                            refine r1 ?_
                            refine s1 4 464 1 rfl rfl rfl rfl rfl rfl trivial ?_
                            refine e1 472 rfl ?_
                            refine keep [4] rfl ?_
                            refine W_ret ?_
                            refine br ?_
                            refine tr ?_
                            refine tr ?_
                            refine br ?_
                            refine tr ?_
                            exact out1 4 (SV.b (mayB k l)) (π := []) (hout := []) Try.results6 rfl (by have hb : oddB k (l.getD n default) = true := (by clear hno; simp only [Int.toNat_natCast] at *; generalize l.getD n default = a at *; cases hp : a.p <;> simp [oddB, inB, heldB, hp] at * <;> omega); have := any_at (by omega) hb; show SV.b _ = SV.b _; refine congrArg SV.b ?_; simp [mayB, this]) rfl rfl trivial ⟨rfl, rfl⟩
                          · skip
                            try simp only [decide_eq_true_eq, decide_eq_false_iff_not, Bool.not_eq_true', Bool.not_eq_false', beq_iff_eq, bne_iff_ne, beq_eq_false_iff_ne, Bool.and_eq_true, Bool.or_eq_true, Bool.and_eq_false_iff, Bool.or_eq_false_iff, ge_iff_le, gt_iff_lt, Int.not_lt, Int.not_le, ne_eq, Decidable.not_not, bne_eq_false_iff_eq] at hc10
                            refine W_skip ?_
                            refine bn ?_
                            refine tn ?_
                            refine r0 ?_
                            refine sA 77 464 1 rfl rfl rfl rfl rfl rfl rfl rfl rfl (by unfold inRange; omega) ?_
                            refine s1 20 472 2 rfl rfl rfl rfl rfl rfl trivial ?_
                            refine e1 480 rfl ?_
                            refine tn ?_
                            exact again (n + 1) [] ⟨by omega, fun j hj => by by_cases e : j = n; (subst e; clear hno; simp only [Int.toNat_natCast] at *; generalize l.getD j default = a at *; cases hp : a.p <;> simp [oddB, inB, heldB, hp] at * <;> omega); exact hno j (by omega)⟩ (by omega) rfl ⟨rfl, rfl, rfl, rfl, trivial⟩ trivial
                        · skip
                          refine ask 63 rfl (fun hg10_63 => ?_) (fun hg10_63 => ?_)
                          · skip
                            try simp only [decide_eq_true_eq, decide_eq_false_iff_not, Bool.not_eq_true', Bool.not_eq_false', beq_iff_eq, bne_iff_ne, beq_eq_false_iff_ne, Bool.and_eq_true, Bool.or_eq_true, Bool.and_eq_false_iff, Bool.or_eq_false_iff, ge_iff_le, gt_iff_lt, Int.not_lt, Int.not_le, ne_eq, Decidable.not_not, bne_eq_false_iff_eq] at hg10_63
                            refine g1 2 true 63 64 4 rfl rfl rfl rfl rfl ?_
                            refine s1 64 360 4 rfl rfl rfl rfl rfl rfl trivial ?_
                            refine g1 2 true 63 65 5 rfl rfl rfl rfl rfl ?_
                            refine s1 65 368 5 rfl rfl rfl rfl rfl rfl (by first | trivial | omega | (simp only [List.length_map, List.length_append, List.length_cons, List.length_nil] at *; omega)) ?_
                            refine g1 2 true 63 66 6 rfl rfl rfl rfl rfl ?_
                            refine s1 66 376 6 rfl rfl rfl rfl rfl rfl (by first | trivial | omega | (simp only [List.length_map, List.length_append, List.length_cons, List.length_nil] at *; omega)) ?_
                            refine g1 2 true 63 67 7 rfl rfl rfl rfl rfl ?_
                            refine s1 67 384 7 rfl rfl rfl rfl rfl rfl trivial ?_
                            refine ask 67 rfl (fun hg10_67 => ?_) (fun hg10_67 => ?_)
                            · skip
                              try simp only [decide_eq_true_eq, decide_eq_false_iff_not, Bool.not_eq_true', Bool.not_eq_false', beq_iff_eq, bne_iff_ne, beq_eq_false_iff_ne, Bool.and_eq_true, Bool.or_eq_true, Bool.and_eq_false_iff, Bool.or_eq_false_iff, ge_iff_le, gt_iff_lt, Int.not_lt, Int.not_le, ne_eq, Decidable.not_not, bne_eq_false_iff_eq] at hg10_67
                              refine g0 6 false 67 68 8 rfl rfl rfl rfl rfl rfl ?_
                              refine g0 6 false 67 69 9 rfl rfl rfl rfl rfl rfl ?_
                              refine g0 6 false 67 70 10 rfl rfl rfl rfl rfl rfl ?_
                              refine g0 6 false 67 71 11 rfl rfl rfl rfl rfl rfl ?_
                              refine gz 10 true 71 72 12 rfl rfl rfl rfl rfl rfl ?_
                              refine gz 10 true 71 73 13 rfl rfl rfl rfl rfl rfl ?_
                              refine g0 6 false 67 74 14 rfl rfl rfl rfl rfl rfl ?_
                              refine g1 2 true 63 75 15 rfl rfl rfl rfl rfl ?_
                              refine s1 75 448 15 rfl rfl rfl rfl rfl rfl trivial ?_
                              refine s1 76 456 16 rfl rfl rfl rfl rfl rfl trivial ?_
                              exact joinEnd hj10_15 rfl (by clear hj10_15; clear hno; simp only [Int.toNat_natCast] at *; generalize l.getD n default = a at *; refine Bool.eq_iff_iff.2 ?_; cases hp : a.p <;> simp [hp] at * <;> omega) ⟨rfl, rfl, rfl, rfl, trivial⟩
                            · skip
                              try simp only [decide_eq_true_eq, decide_eq_false_iff_not, Bool.not_eq_true', Bool.not_eq_false', beq_iff_eq, bne_iff_ne, beq_eq_false_iff_ne, Bool.and_eq_true, Bool.or_eq_true, Bool.and_eq_false_iff, Bool.or_eq_false_iff, ge_iff_le, gt_iff_lt, Int.not_lt, Int.not_le, ne_eq, Decidable.not_not, bne_eq_false_iff_eq] at hg10_67
                              refine g1 6 false 67 68 8 rfl rfl rfl rfl rfl ?_
                              refine s1 68 392 8 rfl rfl rfl rfl rfl rfl trivial ?_
                              refine g1 6 false 67 69 9 rfl rfl rfl rfl rfl ?_
                              refine s1 69 400 9 rfl rfl rfl rfl rfl rfl (by first | trivial | omega | (simp only [List.length_map, List.length_append, List.length_cons, List.length_nil] at *; omega)) ?_
                              refine g1 6 false 67 70 10 rfl rfl rfl rfl rfl ?_
                              refine s1 70 408 10 rfl rfl rfl rfl rfl rfl (by first | trivial | omega | (simp only [List.length_map, List.length_append, List.length_cons, List.length_nil] at *; omega)) ?_
                              refine g1 6 false 67 71 11 rfl rfl rfl rfl rfl ?_
                              refine s1 71 416 11 rfl rfl rfl rfl rfl rfl trivial ?_
                              refine ask 71 rfl (fun hg10_71 => ?_) (fun hg10_71 => ?_)
                              · skip
                                try simp only [decide_eq_true_eq, decide_eq_false_iff_not, Bool.not_eq_true', Bool.not_eq_false', beq_iff_eq, bne_iff_ne, beq_eq_false_iff_ne, Bool.and_eq_true, Bool.or_eq_true, Bool.and_eq_false_iff, Bool.or_eq_false_iff, ge_iff_le, gt_iff_lt, Int.not_lt, Int.not_le, ne_eq, Decidable.not_not, bne_eq_false_iff_eq] at hg10_71
                                refine g1 10 true 71 72 12 rfl rfl rfl rfl rfl ?_
                                refine s1 72 424 12 rfl rfl rfl rfl rfl rfl trivial ?_
                                refine g1 10 true 71 73 13 rfl rfl rfl rfl rfl ?_
                                refine s1 73 432 13 rfl rfl rfl rfl rfl rfl (by first | trivial | omega | (simp only [List.length_map, List.length_append, List.length_cons, List.length_nil] at *; omega)) ?_
                                refine g1 6 false 67 74 14 rfl rfl rfl rfl rfl ?_
                                refine s1 74 440 14 rfl rfl rfl rfl rfl rfl trivial ?_
                                refine g1 2 true 63 75 15 rfl rfl rfl rfl rfl ?_
                                refine s1 75 448 15 rfl rfl rfl rfl rfl rfl trivial ?_
                                refine s1 76 456 16 rfl rfl rfl rfl rfl rfl trivial ?_
                                exact joinEnd hj10_15 rfl (by clear hj10_15; clear hno; simp only [Int.toNat_natCast] at *; generalize l.getD n default = a at *; refine Bool.eq_iff_iff.2 ?_; cases hp : a.p <;> simp [hp] at * <;> omega) ⟨rfl, rfl, rfl, rfl, trivial⟩
                              · skip
                                try simp only [decide_eq_true_eq, decide_eq_false_iff_not, Bool.not_eq_true', Bool.not_eq_false', beq_iff_eq, bne_iff_ne, beq_eq_false_iff_ne, Bool.and_eq_true, Bool.or_eq_true, Bool.and_eq_false_iff, Bool.or_eq_false_iff, ge_iff_le, gt_iff_lt, Int.not_lt, Int.not_le, ne_eq, Decidable.not_not, bne_eq_false_iff_eq] at hg10_71
                                refine g0 10 true 71 72 12 rfl rfl rfl rfl rfl rfl ?_
                                refine g0 10 true 71 73 13 rfl rfl rfl rfl rfl rfl ?_
                                refine g1 6 false 67 74 14 rfl rfl rfl rfl rfl ?_
                                refine s1 74 440 14 rfl rfl rfl rfl rfl rfl trivial ?_
                                refine g1 2 true 63 75 15 rfl rfl rfl rfl rfl ?_
                                refine s1 75 448 15 rfl rfl rfl rfl rfl rfl trivial ?_
                                refine s1 76 456 16 rfl rfl rfl rfl rfl rfl trivial ?_
                                exact joinEnd hj10_15 rfl (by clear hj10_15; clear hno; simp only [Int.toNat_natCast] at *; generalize l.getD n default = a at *; refine Bool.eq_iff_iff.2 ?_; cases hp : a.p <;> simp [hp] at * <;> omega) ⟨rfl, rfl, rfl, rfl, trivial⟩
                          · skip
                            try simp only [decide_eq_true_eq, decide_eq_false_iff_not, Bool.not_eq_true', Bool.not_eq_false', beq_iff_eq, bne_iff_ne, beq_eq_false_iff_ne, Bool.and_eq_true, Bool.or_eq_true, Bool.and_eq_false_iff, Bool.or_eq_false_iff, ge_iff_le, gt_iff_lt, Int.not_lt, Int.not_le, ne_eq, Decidable.not_not, bne_eq_false_iff_eq] at hg10_63
                            refine g0 2 true 63 64 4 rfl rfl rfl rfl rfl rfl ?_
                            refine g0 2 true 63 65 5 rfl rfl rfl rfl rfl rfl ?_
                            refine g0 2 true 63 66 6 rfl rfl rfl rfl rfl rfl ?_
                            refine g0 2 true 63 67 7 rfl rfl rfl rfl rfl rfl ?_
                            refine gz 6 false 67 68 8 rfl rfl rfl rfl rfl rfl ?_
                            refine gz 6 false 67 69 9 rfl rfl rfl rfl rfl rfl ?_
                            refine gz 6 false 67 70 10 rfl rfl rfl rfl rfl rfl ?_
                            refine gz 6 false 67 71 11 rfl rfl rfl rfl rfl rfl ?_
                            refine gz 10 true 71 72 12 rfl rfl rfl rfl rfl rfl ?_
                            refine gz 10 true 71 73 13 rfl rfl rfl rfl rfl rfl ?_
                            refine gz 6 false 67 74 14 rfl rfl rfl rfl rfl rfl ?_
                            refine g0 2 true 63 75 15 rfl rfl rfl rfl rfl rfl ?_
                            refine s1 76 456 16 rfl rfl rfl rfl rfl rfl trivial ?_
                            exact joinEnd hj10_15 rfl (by clear hj10_15; clear hno; simp only [Int.toNat_natCast] at *; generalize l.getD n default = a at *; refine Bool.eq_iff_iff.2 ?_; cases hp : a.p <;> simp [hp] at * <;> omega) ⟨rfl, rfl, rfl, rfl, trivial⟩
                    · skip
                      refine ask 52 rfl (fun hg8_52 => ?_) (fun hg8_52 => ?_)
                      · skip
                        try simp only [decide_eq_true_eq, decide_eq_false_iff_not, Bool.not_eq_true', Bool.not_eq_false', beq_iff_eq, bne_iff_ne, beq_eq_false_iff_ne, Bool.and_eq_true, Bool.or_eq_true, Bool.and_eq_false_iff, Bool.or_eq_false_iff, ge_iff_le, gt_iff_lt, Int.not_lt, Int.not_le, ne_eq, Decidable.not_not, bne_eq_false_iff_eq] at hg8_52
                        refine g1 3 true 52 53 5 rfl rfl rfl rfl rfl ?_
                        refine s1 53 272 5 rfl rfl rfl rfl rfl rfl trivial ?_
                        refine g1 3 true 52 54 6 rfl rfl rfl rfl rfl ?_
                        refine s1 54 280 6 rfl rfl rfl rfl rfl rfl (by first | trivial | omega | (simp only [List.length_map, List.length_append, List.length_cons, List.length_nil] at *; omega)) ?_
                        refine g1 3 true 52 55 7 rfl rfl rfl rfl rfl ?_
                        refine s1 55 288 7 rfl rfl rfl rfl rfl rfl trivial ?_
                        refine ask 55 rfl (fun hg8_55 => ?_) (fun hg8_55 => ?_)
                        · skip
                          try simp only [decide_eq_true_eq, decide_eq_false_iff_not, Bool.not_eq_true', Bool.not_eq_false', beq_iff_eq, bne_iff_ne, beq_eq_false_iff_ne, Bool.and_eq_true, Bool.or_eq_true, Bool.and_eq_false_iff, Bool.or_eq_false_iff, ge_iff_le, gt_iff_lt, Int.not_lt, Int.not_le, ne_eq, Decidable.not_not, bne_eq_false_iff_eq] at hg8_55
                          refine g1 6 true 55 56 8 rfl rfl rfl rfl rfl ?_
                          refine s1 56 296 8 rfl rfl rfl rfl rfl rfl trivial ?_
                          refine g1 6 true 55 57 9 rfl rfl rfl rfl rfl ?_
                          refine s1 57 304 9 rfl rfl rfl rfl rfl rfl (by first | trivial | omega | (simp only [List.length_map, List.length_append, List.length_cons, List.length_nil] at *; omega)) ?_
                          refine g1 3 true 52 58 10 rfl rfl rfl rfl rfl ?_
                          refine s1 58 312 10 rfl rfl rfl rfl rfl rfl trivial ?_
                          refine g1 3 true 52 59 11 rfl rfl rfl rfl rfl ?_
                          refine s1 59 320 11 rfl rfl rfl rfl rfl rfl trivial ?_
                          refine s1 60 328 12 rfl rfl rfl rfl rfl rfl trivial ?_
                          exact joinEnd hj8_11 rfl (by clear hj8_11; clear hno; simp only [Int.toNat_natCast] at *; generalize l.getD n default = a at *; refine Bool.eq_iff_iff.2 ?_; cases hp : a.p <;> simp [hp] at * <;> omega) ⟨rfl, rfl, rfl, rfl, rfl, trivial⟩
                        · skip
                          try simp only [decide_eq_true_eq, decide_eq_false_iff_not, Bool.not_eq_true', Bool.not_eq_false', beq_iff_eq, bne_iff_ne, beq_eq_false_iff_ne, Bool.and_eq_true, Bool.or_eq_true, Bool.and_eq_false_iff, Bool.or_eq_false_iff, ge_iff_le, gt_iff_lt, Int.not_lt, Int.not_le, ne_eq, Decidable.not_not, bne_eq_false_iff_eq] at hg8_55
                          refine g0 6 true 55 56 8 rfl rfl rfl rfl rfl rfl ?_
                          refine g0 6 true 55 57 9 rfl rfl rfl rfl rfl rfl ?_
                          refine g1 3 true 52 58 10 rfl rfl rfl rfl rfl ?_
                          refine s1 58 312 10 rfl rfl rfl rfl rfl rfl trivial ?_
                          refine g1 3 true 52 59 11 rfl rfl rfl rfl rfl ?_
                          refine s1 59 320 11 rfl rfl rfl rfl rfl rfl trivial ?_
                          refine s1 60 328 12 rfl rfl rfl rfl rfl rfl trivial ?_
                          exact joinEnd hj8_11 rfl (by clear hj8_11; clear hno; simp only [Int.toNat_natCast] at *; generalize l.getD n default = a at *; refine Bool.eq_iff_iff.2 ?_; cases hp : a.p <;> simp [hp] at * <;> omega) ⟨rfl, rfl, rfl, rfl, rfl, trivial⟩
                      · skip
                        try simp only [decide_eq_true_eq, decide_eq_false_iff_not, Bool.not_eq_true', Bool.not_eq_false', beq_iff_eq, bne_iff_ne, beq_eq_false_iff_ne, Bool.and_eq_true, Bool.or_eq_true, Bool.and_eq_false_iff, Bool.or_eq_false_iff, ge_iff_le, gt_iff_lt, Int.not_lt, Int.not_le, ne_eq, Decidable.not_not, bne_eq_false_iff_eq] at hg8_52
                        refine g0 3 true 52 53 5 rfl rfl rfl rfl rfl rfl ?_
                        refine g0 3 true 52 54 6 rfl rfl rfl rfl rfl rfl ?_
                        refine g0 3 true 52 55 7 rfl rfl rfl rfl rfl rfl ?_
                        refine gz 6 true 55 56 8 rfl rfl rfl rfl rfl rfl ?_
                        refine gz 6 true 55 57 9 rfl rfl rfl rfl rfl rfl ?_
                        refine g0 3 true 52 58 10 rfl rfl rfl rfl rfl rfl ?_
                        refine g0 3 true 52 59 11 rfl rfl rfl rfl rfl rfl ?_
                        refine s1 60 328 12 rfl rfl rfl rfl rfl rfl trivial ?_
                        exact joinEnd hj8_11 rfl (by clear hj8_11; clear hno; simp only [Int.toNat_natCast] at *; generalize l.getD n default = a at *; refine Bool.eq_iff_iff.2 ?_; cases hp : a.p <;> simp [hp] at * <;> omega) ⟨rfl, rfl, rfl, rfl, rfl, trivial⟩
                · skip
                  try simp only [decide_eq_true_eq, decide_eq_false_iff_not, Bool.not_eq_true', Bool.not_eq_false', beq_iff_eq, bne_iff_ne, beq_eq_false_iff_ne, Bool.and_eq_true, Bool.or_eq_true, Bool.and_eq_false_iff, Bool.or_eq_false_iff, ge_iff_le, gt_iff_lt, Int.not_lt, Int.not_le, ne_eq, Decidable.not_not, bne_eq_false_iff_eq] at hg6_43
                  refine g0 19 true 43 44 21 rfl rfl rfl rfl rfl rfl ?_
                  refine g0 19 true 43 45 22 rfl rfl rfl rfl rfl rfl ?_
                  refine g0 19 true 43 46 23 rfl rfl rfl rfl rfl rfl ?_
                  refine g1 13 false 37 47 24 rfl rfl rfl rfl rfl ?_
                  refine s1 47 224 24 rfl rfl rfl rfl rfl rfl trivial ?_
                  refine s1 48 232 25 rfl rfl rfl rfl rfl rfl trivial ?_
                  refine e1 240 rfl ?_
                  refine keep [0, 6, 18, 19, 20, 48] rfl ?_
                  refine q1 rfl (fun hc6 => ?_) (fun hc6 => ?_)
                  · skip
                    exact absurd hc6 (by decide)
                  · skip
                    try simp only [decide_eq_true_eq, decide_eq_false_iff_not, Bool.not_eq_true', Bool.not_eq_false', beq_iff_eq, bne_iff_ne, beq_eq_false_iff_ne, Bool.and_eq_true, Bool.or_eq_true, Bool.and_eq_false_iff, Bool.or_eq_false_iff, ge_iff_le, gt_iff_lt, Int.not_lt, Int.not_le, ne_eq, Decidable.not_not, bne_eq_false_iff_eq] at hc6
                    refine W_skip ?_
                    refine tn ?_
                    refine W_seq ?_
                    refine r1 ?_
                    refine s1 49 240 1 rfl rfl rfl rfl rfl rfl trivial ?_
                    refine s1 50 248 2 rfl rfl rfl rfl rfl rfl (by first | trivial | omega | (simp only [List.length_map, List.length_append, List.length_cons, List.length_nil] at *; omega)) ?_
                    refine s1 51 256 3 rfl rfl rfl rfl rfl rfl (by first | trivial | omega | (simp only [List.length_map, List.length_append, List.length_cons, List.length_nil] at *; omega)) ?_
                    refine s1 52 264 4 rfl rfl rfl rfl rfl rfl trivial ?_
                    refine joinB 8 12 60 (!decide ((l.getD n default).y = 0) && !(decide (k = 2) && (l.getD n default).p)) [0, 6, 18, 19, 20, 52] [0, 6, 18, 19, 20] rfl rfl rfl rfl ?_ (fun hj8_11 => ?_)
                    · skip
                      refine e1 336 rfl ?_
                      refine keep [0, 6, 18, 19, 20, 60] rfl ?_
                      refine q1 rfl (fun hc8 => ?_) (fun hc8 => ?_)
                      · skip
                        try simp only [decide_eq_true_eq, decide_eq_false_iff_not, Bool.not_eq_true', Bool.not_eq_false', beq_iff_eq, bne_iff_ne, beq_eq_false_iff_ne, Bool.and_eq_true, Bool.or_eq_true, Bool.and_eq_false_iff, Bool.or_eq_false_iff, ge_iff_le, gt_iff_lt, Int.not_lt, Int.not_le, ne_eq, Decidable.not_not, bne_eq_false_iff_eq] at hc8
                        refine r1 ?_
                        refine s1 4 336 1 rfl rfl rfl rfl rfl rfl trivial ?_
                        refine e1 344 rfl ?_
                        refine keep [4] rfl ?_
                        refine W_ret ?_
                        refine tr ?_
                        refine br ?_
                        refine tr ?_
                        refine tr ?_
                        refine br ?_
                        refine tr ?_
                        exact out1 4 (SV.b (mayB k l)) (π := []) (hout := []) Try.results6 rfl (by have hb : oddB k (l.getD n default) = true := (by clear hno; simp only [Int.toNat_natCast] at *; generalize l.getD n default = a at *; cases hp : a.p <;> simp [oddB, inB, heldB, hp] at * <;> omega); have := any_at (by omega) hb; show SV.b _ = SV.b _; refine congrArg SV.b ?_; simp [mayB, this]) rfl rfl trivial ⟨rfl, rfl⟩
                      · skip
                        try simp only [decide_eq_true_eq, decide_eq_false_iff_not, Bool.not_eq_true', Bool.not_eq_false', beq_iff_eq, bne_iff_ne, beq_eq_false_iff_ne, Bool.and_eq_true, Bool.or_eq_true, Bool.and_eq_false_iff, Bool.or_eq_false_iff, ge_iff_le, gt_iff_lt, Int.not_lt, Int.not_le, ne_eq, Decidable.not_not, bne_eq_false_iff_eq] at hc8
                        refine W_skip ?_
                        refine tn ?_
                        refine r1 ?_
                        refine s1 61 336 1 rfl rfl rfl rfl rfl rfl trivial ?_
                        refine s1 62 344 2 rfl rfl rfl rfl rfl rfl (by first | trivial | omega | (simp only [List.length_map, List.length_append, List.length_cons, List.length_nil] at *; omega)) ?_
                        refine s1 63 352 3 rfl rfl rfl rfl rfl rfl trivial ?_
                        refine joinB 13 16 76 (decide (3 ≤ k) && (decide ((l.getD n default).v < -1) || (decide ((l.getD n default).v = -1) && (l.getD n default).p))) [0, 6, 18, 19, 20, 63] [0, 18, 19, 20] rfl rfl rfl rfl ?_ (fun hj10_15 => ?_)
                        · skip
                          refine e1 464 rfl ?_
                          refine keep [0, 18, 19, 20, 76] rfl ?_
                          refine q1 rfl (fun hc10 => ?_) (fun hc10 => ?_)
                          · skip
                            try simp only [decide_eq_true_eq, decide_eq_false_iff_not, Bool.not_eq_true', Bool.not_eq_false', beq_iff_eq, bne_iff_ne, beq_eq_false_iff_ne, Bool.and_eq_true, Bool.or_eq_true, Bool.and_eq_false_iff, Bool.or_eq_false_iff, ge_iff_le, gt_iff_lt, Int.not_lt, Int.not_le, ne_eq, Decidable.not_not, bne_eq_false_iff_eq] at hc10
                            refine r1 ?_
                            refine s1 4 464 1 rfl rfl rfl rfl rfl rfl trivial ?_
                            refine e1 472 rfl ?_
                            refine keep [4] rfl ?_
                            refine W_ret ?_
                            refine br ?_
                            refine tr ?_
                            refine tr ?_
                            refine br ?_
                            refine tr ?_
                            exact out1 4 (SV.b (mayB k l)) (π := []) (hout := []) Try.results6 rfl (by have hb : oddB k (l.getD n default) = true := (by clear hno; simp only [Int.toNat_natCast] at *; generalize l.getD n default = a at *; cases hp : a.p <;> simp [oddB, inB, heldB, hp] at * <;> omega); have := any_at (by omega) hb; show SV.b _ = SV.b _; refine congrArg SV.b ?_; simp [mayB, this]) rfl rfl trivial ⟨rfl, rfl⟩
                          · skip
                            try simp only [decide_eq_true_eq, decide_eq_false_iff_not, Bool.not_eq_true', Bool.not_eq_false', beq_iff_eq, bne_iff_ne, beq_eq_false_iff_ne, Bool.and_eq_true, Bool.or_eq_true, Bool.and_eq_false_iff, Bool.or_eq_false_iff, ge_iff_le, gt_iff_lt, Int.not_lt, Int.not_le, ne_eq, Decidable.not_not, bne_eq_false_iff_eq] at hc10
                            refine W_skip ?_
                            refine bn ?_
                            refine tn ?_
                            refine r0 ?_
                            refine sA 77 464 1 rfl rfl rfl rfl rfl rfl rfl rfl rfl (by unfold inRange; omega) ?_
                            refine s1 20 472 2 rfl rfl rfl rfl rfl rfl trivial ?_
                            refine e1 480 rfl ?_
                            refine tn ?_
                            exact again (n + 1) [] ⟨by omega, fun j hj => by by_cases e : j = n; (subst e; clear hno; simp only [Int.toNat_natCast] at *; generalize l.getD j default = a at *; cases hp : a.p <;> simp [oddB, inB, heldB, hp] at * <;> omega); exact hno j (by omega)⟩ (by omega) rfl ⟨rfl, rfl, rfl, rfl, trivial⟩ trivial
                        · skip
                          refine ask 63 rfl (fun hg10_63 => ?_) (fun hg10_63 => ?_)
                          · skip
                            try simp only [decide_eq_true_eq, decide_eq_false_iff_not, Bool.not_eq_true', Bool.not_eq_false', beq_iff_eq, bne_iff_ne, beq_eq_false_iff_ne, Bool.and_eq_true, Bool.or_eq_true, Bool.and_eq_false_iff, Bool.or_eq_false_iff, ge_iff_le, gt_iff_lt, Int.not_lt, Int.not_le, ne_eq, Decidable.not_not, bne_eq_false_iff_eq] at hg10_63
                            refine g1 2 true 63 64 4 rfl rfl rfl rfl rfl ?_
                            refine s1 64 360 4 rfl rfl rfl rfl rfl rfl trivial ?_
                            refine g1 2 true 63 65 5 rfl rfl rfl rfl rfl ?_
                            refine s1 65 368 5 rfl rfl rfl rfl rfl rfl (by first | trivial | omega | (simp only [List.length_map, List.length_append, List.length_cons, List.length_nil] at *; omega)) ?_
                            refine g1 2 true 63 66 6 rfl rfl rfl rfl rfl ?_
                            refine s1 66 376 6 rfl rfl rfl rfl rfl rfl (by first | trivial | omega | (simp only [List.length_map, List.length_append, List.length_cons, List.length_nil] at *; omega)) ?_
                            refine g1 2 true 63 67 7 rfl rfl rfl rfl rfl ?_
                            refine s1 67 384 7 rfl rfl rfl rfl rfl rfl trivial ?_
                            refine ask 67 rfl (fun hg10_67 => ?_) (fun hg10_67 => ?_)
                            · skip
                              try simp only [decide_eq_true_eq, decide_eq_false_iff_not, Bool.not_eq_true', Bool.not_eq_false', beq_iff_eq, bne_iff_ne, beq_eq_false_iff_ne, Bool.and_eq_true, Bool.or_eq_true, Bool.and_eq_false_iff, Bool.or_eq_false_iff, ge_iff_le, gt_iff_lt, Int.not_lt, Int.not_le, ne_eq, Decidable.not_not, bne_eq_false_iff_eq] at hg10_67
                              refine g0 6 false 67 68 8 rfl rfl rfl rfl rfl rfl ?_
                              refine g0 6 false 67 69 9 rfl rfl rfl rfl rfl rfl ?_
                              refine g0 6 false 67 70 10 rfl rfl rfl rfl rfl rfl ?_
                              refine g0 6 false 67 71 11 rfl rfl rfl rfl rfl rfl ?_
                              refine gz 10 true 71 72 12 rfl rfl rfl rfl rfl rfl ?_
                              refine gz 10 true 71 73 13 rfl rfl rfl rfl rfl rfl ?_
                              refine g0 6 false 67 74 14 rfl rfl rfl rfl rfl rfl ?_
                              refine g1 2 true 63 75 15 rfl rfl rfl rfl rfl ?_
                              refine s1 75 448 15 rfl rfl rfl rfl rfl rfl trivial ?_
                              refine s1 76 456 16 rfl rfl rfl rfl rfl rfl trivial ?_
                              exact joinEnd hj10_15 rfl (by clear hj10_15; clear hno; simp only [Int.toNat_natCast] at *; generalize l.getD n default = a at *; refine Bool.eq_iff_iff.2 ?_; cases hp : a.p <;> simp [hp] at * <;> omega) ⟨rfl, rfl, rfl, rfl, trivial⟩
                            · skip
                              try simp only [decide_eq_true_eq, decide_eq_false_iff_not, Bool.not_eq_true', Bool.not_eq_false', beq_iff_eq, bne_iff_ne, beq_eq_false_iff_ne, Bool.and_eq_true, Bool.or_eq_true, Bool.and_eq_false_iff, Bool.or_eq_false_iff, ge_iff_le, gt_iff_lt, Int.not_lt, Int.not_le, ne_eq, Decidable.not_not, bne_eq_false_iff_eq] at hg10_67
                              refine g1 6 false 67 68 8 rfl rfl rfl rfl rfl ?_
                              refine s1 68 392 8 rfl rfl rfl rfl rfl rfl trivial ?_
                              refine g1 6 false 67 69 9 rfl rfl rfl rfl rfl ?_
                              refine s1 69 400 9 rfl rfl rfl rfl rfl rfl (by first | trivial | omega | (simp only [List.length_map, List.length_append, List.length_cons, List.length_nil] at *; omega)) ?_
                              refine g1 6 false 67 70 10 rfl rfl rfl rfl rfl ?_
                              refine s1 70 408 10 rfl rfl rfl rfl rfl rfl (by first | trivial | omega | (simp only [List.length_map, List.length_append, List.length_cons, List.length_nil] at *; omega)) ?_
                              refine g1 6 false 67 71 11 rfl rfl rfl rfl rfl ?_
                              refine s1 71 416 11 rfl rfl rfl rfl rfl rfl trivial ?_
                              refine ask 71 rfl (fun hg10_71 => ?_) (fun hg10_71 => ?_)
                              · skip
                                try simp only [decide_eq_true_eq, decide_eq_false_iff_not, Bool.not_eq_true', Bool.not_eq_false', beq_iff_eq, bne_iff_ne, beq_eq_false_iff_ne, Bool.and_eq_true, Bool.or_eq_true, Bool.and_eq_false_iff, Bool.or_eq_false_iff, ge_iff_le, gt_iff_lt, Int.not_lt, Int.not_le, ne_eq, Decidable.not_not, bne_eq_false_iff_eq] at hg10_71
                                refine g1 10 true 71 72 12 rfl rfl rfl rfl rfl ?_
                                refine s1 72 424 12 rfl rfl rfl rfl rfl rfl trivial ?_
                                refine g1 10 true 71 73 13 rfl rfl rfl rfl rfl ?_
                                refine s1 73 432 13 rfl rfl rfl rfl rfl rfl (by first | trivial | omega | (simp only [List.length_map, List.length_append, List.length_cons, List.length_nil] at *; omega)) ?_
                                refine g1 6 false 67 74 14 rfl rfl rfl rfl rfl ?_
                                refine s1 74 440 14 rfl rfl rfl rfl rfl rfl trivial ?_
                                refine g1 2 true 63 75 15 rfl rfl rfl rfl rfl ?_
                                refine s1 75 448 15 rfl rfl rfl rfl rfl rfl trivial ?_
                                refine s1 76 456 16 rfl rfl rfl rfl rfl rfl trivial ?_
                                exact joinEnd hj10_15 rfl (by clear hj10_15; clear hno; simp only [Int.toNat_natCast] at *; generalize l.getD n default = a at *; refine Bool.eq_iff_iff.2 ?_; cases hp : a.p <;> simp [hp] at * <;> omega) ⟨rfl, rfl, rfl, rfl, trivial⟩
                              · skip
                                try simp only [decide_eq_true_eq, decide_eq_false_iff_not, Bool.not_eq_true', Bool.not_eq_false', beq_iff_eq, bne_iff_ne, beq_eq_false_iff_ne, Bool.and_eq_true, Bool.or_eq_true, Bool.and_eq_false_iff, Bool.or_eq_false_iff, ge_iff_le, gt_iff_lt, Int.not_lt, Int.not_le, ne_eq, Decidable.not_not, bne_eq_false_iff_eq] at hg10_71
                                refine g0 10 true 71 72 12 rfl rfl rfl rfl rfl rfl ?_
                                refine g0 10 true 71 73 13 rfl rfl rfl rfl rfl rfl ?_
                                refine g1 6 false 67 74 14 rfl rfl rfl rfl rfl ?_
                                refine s1 74 440 14 rfl rfl rfl rfl rfl rfl trivial ?_
                                refine g1 2 true 63 75 15 rfl rfl rfl rfl rfl ?_
                                refine s1 75 448 15 rfl rfl rfl rfl rfl rfl trivial ?_
                                refine s1 76 456 16 rfl rfl rfl rfl rfl rfl trivial ?_
                                exact joinEnd hj10_15 rfl (by clear hj10_15; clear hno; simp only [Int.toNat_natCast] at *; generalize l.getD n default = a at *; refine Bool.eq_iff_iff.2 ?_; cases hp : a.p <;> simp [hp] at * <;> omega) ⟨rfl, rfl, rfl, rfl, trivial⟩
                          · skip
                            try simp only [decide_eq_true_eq, decide_eq_false_iff_not, Bool.not_eq_true', Bool.not_eq_false', beq_iff_eq, bne_iff_ne, beq_eq_false_iff_ne, Bool.and_eq_true, Bool.or_eq_true, Bool.and_eq_false_iff, Bool.or_eq_false_iff, ge_iff_le, gt_iff_lt, Int.not_lt, Int.not_le, ne_eq, Decidable.not_not, bne_eq_false_iff_eq] at hg10_63
                            refine g0 2 true 63 64 4 rfl rfl rfl rfl rfl rfl ?_
                            refine g0 2 true 63 65 5 rfl rfl rfl rfl rfl rfl ?_
                            refine g0 2 true 63 66 6 rfl rfl rfl rfl rfl rfl ?_
                            refine g0 2 true 63 67 7 rfl rfl rfl rfl rfl rfl ?_
                            refine gz 6 false 67 68 8 rfl rfl rfl rfl rfl rfl ?_
                            refine gz 6 false 67 69 9 rfl rfl rfl rfl rfl rfl ?_
                            refine gz 6 false 67 70 10 rfl rfl rfl rfl rfl rfl ?_
                            refine gz 6 false 67 71 11 rfl rfl rfl rfl rfl rfl ?_
                            refine gz 10 true 71 72 12 rfl rfl rfl rfl rfl rfl ?_
                            refine gz 10 true 71 73 13 rfl rfl rfl rfl rfl rfl ?_
                            refine gz 6 false 67 74 14 rfl rfl rfl rfl rfl rfl ?_
                            refine g0 2 true 63 75 15 rfl rfl rfl rfl rfl rfl ?_
                            refine s1 76 456 16 rfl rfl rfl rfl rfl rfl trivial ?_
                            exact joinEnd hj10_15 rfl (by clear hj10_15; clear hno; simp only [Int.toNat_natCast] at *; generalize l.getD n default = a at *; refine Bool.eq_iff_iff.2 ?_; cases hp : a.p <;> simp [hp] at * <;> omega) ⟨rfl, rfl, rfl, rfl, trivial⟩
                    · skip
                      refine ask 52 rfl (fun hg8_52 => ?_) (fun hg8_52 => ?_)
                      · skip
                        try simp only [decide_eq_true_eq, decide_eq_false_iff_not, Bool.not_eq_true', Bool.not_eq_false', beq_iff_eq, bne_iff_ne, beq_eq_false_iff_ne, Bool.and_eq_true, Bool.or_eq_true, Bool.and_eq_false_iff, Bool.or_eq_false_iff, ge_iff_le, gt_iff_lt, Int.not_lt, Int.not_le, ne_eq, Decidable.not_not, bne_eq_false_iff_eq] at hg8_52
                        refine g1 3 true 52 53 5 rfl rfl rfl rfl rfl ?_
                        refine s1 53 272 5 rfl rfl rfl rfl rfl rfl trivial ?_
                        refine g1 3 true 52 54 6 rfl rfl rfl rfl rfl ?_
                        refine s1 54 280 6 rfl rfl rfl rfl rfl rfl (by first | trivial | omega | (simp only [List.length_map, List.length_append, List.length_cons, List.length_nil] at *; omega)) ?_
                        refine g1 3 true 52 55 7 rfl rfl rfl rfl rfl ?_
                        refine s1 55 288 7 rfl rfl rfl rfl rfl rfl trivial ?_
                        refine ask 55 rfl (fun hg8_55 => ?_) (fun hg8_55 => ?_)
                        · skip
                          try simp only [decide_eq_true_eq, decide_eq_false_iff_not, Bool.not_eq_true', Bool.not_eq_false', beq_iff_eq, bne_iff_ne, beq_eq_false_iff_ne, Bool.and_eq_true, Bool.or_eq_true, Bool.and_eq_false_iff, Bool.or_eq_false_iff, ge_iff_le, gt_iff_lt, Int.not_lt, Int.not_le, ne_eq, Decidable.not_not, bne_eq_false_iff_eq] at hg8_55
                          refine g1 6 true 55 56 8 rfl rfl rfl rfl rfl ?_
                          refine s1 56 296 8 rfl rfl rfl rfl rfl rfl trivial ?_
                          refine g1 6 true 55 57 9 rfl rfl rfl rfl rfl ?_
                          refine s1 57 304 9 rfl rfl rfl rfl rfl rfl (by first | trivial | omega | (simp only [List.length_map, List.length_append, List.length_cons, List.length_nil] at *; omega)) ?_
                          refine g1 3 true 52 58 10 rfl rfl rfl rfl rfl ?_
                          refine s1 58 312 10 rfl rfl rfl rfl rfl rfl trivial ?_
                          refine g1 3 true 52 59 11 rfl rfl rfl rfl rfl ?_
                          refine s1 59 320 11 rfl rfl rfl rfl rfl rfl trivial ?_
                          refine s1 60 328 12 rfl rfl rfl rfl rfl rfl trivial ?_
                          exact joinEnd hj8_11 rfl (by clear hj8_11; clear hno; simp only [Int.toNat_natCast] at *; generalize l.getD n default = a at *; refine Bool.eq_iff_iff.2 ?_; cases hp : a.p <;> simp [hp] at * <;> omega) ⟨rfl, rfl, rfl, rfl, rfl, trivial⟩
                        · skip
                          try simp only [decide_eq_true_eq, decide_eq_false_iff_not, Bool.not_eq_true', Bool.not_eq_false', beq_iff_eq, bne_iff_ne, beq_eq_false_iff_ne, Bool.and_eq_true, Bool.or_eq_true, Bool.and_eq_false_iff, Bool.or_eq_false_iff, ge_iff_le, gt_iff_lt, Int.not_lt, Int.not_le, ne_eq, Decidable.not_not, bne_eq_false_iff_eq] at hg8_55
                          refine g0 6 true 55 56 8 rfl rfl rfl rfl rfl rfl ?_
                          refine g0 6 true 55 57 9 rfl rfl rfl rfl rfl rfl ?_
                          refine g1 3 true 52 58 10 rfl rfl rfl rfl rfl ?_
                          refine s1 58 312 10 rfl rfl rfl rfl rfl rfl trivial ?_
                          refine g1 3 true 52 59 11 rfl rfl rfl rfl rfl ?_
                          refine s1 59 320 11 rfl rfl rfl rfl rfl rfl trivial ?_
                          refine s1 60 328 12 rfl rfl rfl rfl rfl rfl trivial ?_
                          exact joinEnd hj8_11 rfl (by clear hj8_11; clear hno; simp only [Int.toNat_natCast] at *; generalize l.getD n default = a at *; refine Bool.eq_iff_iff.2 ?_; cases hp : a.p <;> simp [hp] at * <;> omega) ⟨rfl, rfl, rfl, rfl, rfl, trivial⟩
                      · skip
                        try simp only [decide_eq_true_eq, decide_eq_false_iff_not, Bool.not_eq_true', Bool.not_eq_false', beq_iff_eq, bne_iff_ne, beq_eq_false_iff_ne, Bool.and_eq_true, Bool.or_eq_true, Bool.and_eq_false_iff, Bool.or_eq_false_iff, ge_iff_le, gt_iff_lt, Int.not_lt, Int.not_le, ne_eq, Decidable.not_not, bne_eq_false_iff_eq] at hg8_52
                        refine g0 3 true 52 53 5 rfl rfl rfl rfl rfl rfl ?_
                        refine g0 3 true 52 54 6 rfl rfl rfl rfl rfl rfl ?_
                        refine g0 3 true 52 55 7 rfl rfl rfl rfl rfl rfl ?_
                        refine gz 6 true 55 56 8 rfl rfl rfl rfl rfl rfl ?_
                        refine gz 6 true 55 57 9 rfl rfl rfl rfl rfl rfl ?_
                        refine g0 3 true 52 58 10 rfl rfl rfl rfl rfl rfl ?_
                        refine g0 3 true 52 59 11 rfl rfl rfl rfl rfl rfl ?_
                        refine s1 60 328 12 rfl rfl rfl rfl rfl rfl trivial ?_
                        exact joinEnd hj8_11 rfl (by clear hj8_11; clear hno; simp only [Int.toNat_natCast] at *; generalize l.getD n default = a at *; refine Bool.eq_iff_iff.2 ?_; cases hp : a.p <;> simp [hp] at * <;> omega) ⟨rfl, rfl, rfl, rfl, rfl, trivial⟩
        · skip
          try simp only [decide_eq_true_eq, decide_eq_false_iff_not, Bool.not_eq_true', Bool.not_eq_false', beq_iff_eq, bne_iff_ne, beq_eq_false_iff_ne, Bool.and_eq_true, Bool.or_eq_true, Bool.and_eq_false_iff, Bool.or_eq_false_iff, ge_iff_le, gt_iff_lt, Int.not_lt, Int.not_le, ne_eq, Decidable.not_not, bne_eq_false_iff_eq] at hc4
          refine W_exit ?_
          refine tx ?_
          refine tx ?_
          refine bx ?_
          refine tn ?_
          refine r1 ?_
          refine s1 4 8 1 rfl rfl rfl rfl rfl rfl trivial ?_
          refine e1 16 rfl ?_
          refine keep [4] rfl ?_
          refine W_ret ?_
          exact out1 4 (SV.b (mayB k l)) (π := []) (hout := []) Try.results6 rfl (by have := any_none (fun j hj => hno j (by omega)); show SV.b _ = SV.b _; refine congrArg SV.b (Bool.eq_iff_iff.2 ?_); simp [mayB, inB, this] at *; omega) rfl rfl trivial ⟨rfl, rfl⟩

theorem law_any (k : Int) (l : List Act) (hl : l.length ≤ 9223372036854775807) : Spec Try.prog G0 3 [SV.i k, actsV l] [] (fun r _ => r = SV.b true) := by
  refine start 12 0 Try.func3 rfl rfl rfl rfl ?_
  refine r1 ?_
  refine s1 4 0 1 rfl rfl rfl rfl rfl rfl trivial ?_
  refine e1 8 rfl ?_
  refine keep [0, 1] rfl ?_
  refine r1 ?_
  refine s1 5 8 1 rfl rfl rfl rfl rfl rfl trivial ?_
  refine s1 6 16 2 rfl rfl rfl rfl rfl rfl trivial ?_
  refine c1 (may_any k l hl) [] [] 7 24 3 rfl rfl rfl rfl rfl rfl rfl rfl Try.func5 rfl rfl rfl rfl trivial rfl rfl ?_
  refine s1 8 32 4 rfl rfl rfl rfl rfl rfl trivial ?_
  refine s1 9 40 5 rfl rfl rfl rfl rfl rfl trivial ?_
  refine c1 (history_any k l hl) [] [] 10 48 6 rfl rfl rfl rfl rfl rfl rfl rfl Try.func6 rfl rfl rfl rfl trivial rfl rfl ?_
  refine s1 11 56 7 rfl rfl rfl rfl rfl rfl (by first | trivial | omega | (simp only [List.length_map, List.length_append, List.length_cons, List.length_nil] at *; omega)) ?_
  refine s1 4 64 8 rfl rfl rfl rfl rfl rfl trivial ?_
  refine e1 72 rfl ?_
  refine keep [4] rfl ?_
  refine W_ret ?_
  exact out1 4 (SV.b true) (π := []) (hout := []) Try.results3 rfl (by first | (simp; done) | (simp; rfl)) rfl rfl trivial rfl

end Go.Proofs.Ytdjphneoecebmaa.Nice
