/- The histories that may be: the program's May and the document's. -/
import Derived.Test.YtnnjobmiepnedaaDoorProg
import Derived.Test.YtnnjobmiepnedaaDoorNiceM
import Derived.Test.YtnnjobmiepnedaaDoorNiceV
namespace Go.Proofs.YtnnjobmiepnedaaDoor.Nice.Lin
open Go
set_option linter.unusedVariables false
set_option linter.unusedSimpArgs false
set_option maxRecDepth 100000
def G0 : Nat → SV := fun _ => .any
structure Act where
  b : Int
  e : Int
  p : Bool
  v : Int
  y : Int
  deriving Inhabited
def actC (a : Act) : Nat → D
  | 0 => .val (.int .i64 a.b)
  | 1 => .val (.int .i64 a.e)
  | 2 => .val (.bool a.p)
  | 3 => .val (.int .i64 a.v)
  | 4 => .val (.int .i64 a.y)
  | _ => .any
def actF (l : List Act) : Nat → Nat → D := fun i c => actC (l.getD i default) c
def actsV (l : List Act) : SV := .d (.vec 5 l.length (actF l))
def actS (a : Act) : SV := .agg [.d (actC a 0), .d (actC a 1), .d (actC a 2), .d (actC a 3), .d (actC a 4)]
def inB (n lo hi : Int) : Bool := decide (lo ≤ n) && decide (n ≤ hi)
def heldB (k : Int) : Bool := decide (k = 3) || decide (k = 4)
def oddB (k : Int) (a : Act) : Bool := !inB a.b 0 1048576 || (!decide (a.e = -1) && !inB a.e a.b 1048576) || (!decide (a.y = 0) && (!decide (k = 2) || !a.p)) || (heldB k && decide (a.v < 0) && (a.p || !decide (a.v = -1)))
def idx (l : List Act) (p : Act → Bool) : Int := match l.findIdx? p with | some i => i | none => -1
def mayB (k : Int) (l : List Act) : Bool := inB k 1 4 && decide (l.length ≤ 9) && !l.any (oddB k)

theorem in_any (n lo hi : Int) : Spec Tryd.prog G0 66 [SV.i n, SV.i lo, SV.i hi] [] (fun r ho => r = SV.b (inB n lo hi) ∧ ho = []) := by
  refine start 15 0 Tryd.func66 rfl rfl rfl rfl ?_
  refine r1 ?_
  refine s1 6 0 1 rfl rfl rfl rfl rfl rfl trivial ?_
  refine e1 8 rfl ?_
  refine keep [0, 1, 2] rfl ?_
  refine r1 ?_
  refine s1 7 8 1 rfl rfl rfl rfl rfl rfl trivial ?_
  refine s1 8 16 2 rfl rfl rfl rfl rfl rfl trivial ?_
  refine s1 9 24 3 rfl rfl rfl rfl rfl rfl (by first | trivial | omega) ?_
  refine s1 10 32 4 rfl rfl rfl rfl rfl rfl trivial ?_
  refine ask 10 rfl (fun hg1_10 => ?_) (fun hg1_10 => ?_)
  · skip
    try simp only [cs, ne_eq] at hg1_10
    refine g1 3 true 10 11 5 rfl rfl rfl rfl rfl ?_
    refine s1 11 40 5 rfl rfl rfl rfl rfl rfl trivial ?_
    refine g1 3 true 10 12 6 rfl rfl rfl rfl rfl ?_
    refine s1 12 48 6 rfl rfl rfl rfl rfl rfl trivial ?_
    refine g1 3 true 10 13 7 rfl rfl rfl rfl rfl ?_
    refine s1 13 56 7 rfl rfl rfl rfl rfl rfl (by first | trivial | omega) ?_
    refine s1 14 64 8 rfl rfl rfl rfl rfl rfl trivial ?_
    refine s1 6 72 9 rfl rfl rfl rfl rfl rfl trivial ?_
    refine e1 80 rfl ?_
    refine keep [6] rfl ?_
    refine W_ret ?_
    exact out1 6 (SV.b (inB n lo hi)) (π := []) (hout := []) Tryd.results66 rfl (by show SV.b _ = SV.b _; refine congrArg SV.b (Bool.eq_iff_iff.2 ?_); first | (simp [inB, *]; done) | (simp [inB, *]; omega) | (simp [inB]; omega)) rfl rfl trivial ⟨rfl, rfl⟩
  try simp only [cs, ne_eq] at hg1_10
  refine g0 3 true 10 11 5 rfl rfl rfl rfl rfl rfl ?_
  refine g0 3 true 10 12 6 rfl rfl rfl rfl rfl rfl ?_
  refine g0 3 true 10 13 7 rfl rfl rfl rfl rfl rfl ?_
  refine s1 14 64 8 rfl rfl rfl rfl rfl rfl trivial ?_
  refine s1 6 72 9 rfl rfl rfl rfl rfl rfl trivial ?_
  refine e1 80 rfl ?_
  refine keep [6] rfl ?_
  refine W_ret ?_
  exact out1 6 (SV.b (inB n lo hi)) (π := []) (hout := []) Tryd.results66 rfl (by show SV.b _ = SV.b _; refine congrArg SV.b (Bool.eq_iff_iff.2 ?_); first | (simp [inB, *]; done) | (simp [inB, *]; omega) | (simp [inB]; omega)) rfl rfl trivial ⟨rfl, rfl⟩

theorem held_any (k : Int) : Spec Tryd.prog G0 69 [SV.i k] [] (fun r ho => r = SV.b (heldB k) ∧ ho = []) := by
  refine start 9 0 Tryd.func69 rfl rfl rfl rfl ?_
  refine r1 ?_
  refine s1 2 0 1 rfl rfl rfl rfl rfl rfl trivial ?_
  refine e1 8 rfl ?_
  refine keep [0] rfl ?_
  refine r1 ?_
  refine s1 3 8 1 rfl rfl rfl rfl rfl rfl trivial ?_
  refine s1 4 16 2 rfl rfl rfl rfl rfl rfl (by first | trivial | omega) ?_
  refine s1 5 24 3 rfl rfl rfl rfl rfl rfl trivial ?_
  refine ask 5 rfl (fun hg1_5 => ?_) (fun hg1_5 => ?_)
  · skip
    try simp only [cs, ne_eq] at hg1_5
    refine g0 2 false 5 6 4 rfl rfl rfl rfl rfl rfl ?_
    refine g0 2 false 5 7 5 rfl rfl rfl rfl rfl rfl ?_
    refine s1 8 48 6 rfl rfl rfl rfl rfl rfl trivial ?_
    refine s1 2 56 7 rfl rfl rfl rfl rfl rfl trivial ?_
    refine e1 64 rfl ?_
    refine keep [2] rfl ?_
    refine W_ret ?_
    exact out1 2 (SV.b (heldB k)) (π := []) (hout := []) Tryd.results69 rfl (by show SV.b _ = SV.b _; refine congrArg SV.b (Bool.eq_iff_iff.2 ?_); first | (simp [heldB, *]; done) | (simp [heldB, *]; omega) | (simp [heldB]; omega)) rfl rfl trivial ⟨rfl, rfl⟩
  try simp only [cs, ne_eq] at hg1_5
  refine g1 2 false 5 6 4 rfl rfl rfl rfl rfl ?_
  refine s1 6 32 4 rfl rfl rfl rfl rfl rfl trivial ?_
  refine g1 2 false 5 7 5 rfl rfl rfl rfl rfl ?_
  refine s1 7 40 5 rfl rfl rfl rfl rfl rfl (by first | trivial | omega) ?_
  refine s1 8 48 6 rfl rfl rfl rfl rfl rfl trivial ?_
  refine s1 2 56 7 rfl rfl rfl rfl rfl rfl trivial ?_
  refine e1 64 rfl ?_
  refine keep [2] rfl ?_
  refine W_ret ?_
  exact out1 2 (SV.b (heldB k)) (π := []) (hout := []) Tryd.results69 rfl (by show SV.b _ = SV.b _; refine congrArg SV.b (Bool.eq_iff_iff.2 ?_); first | (simp [heldB, *]; done) | (simp [heldB, *]; omega) | (simp [heldB]; omega)) rfl rfl trivial ⟨rfl, rfl⟩

theorem odd_any (k : Int) (a : Act) : Spec Tryd.prog G0 68 [actS a, .ptr 0 0 0] [.cells 3 1 [SV.i k]] (fun r ho => r = SV.b (oddB k a) ∧ ho = [some (.cells 3 1 [SV.i k])]) := by
  refine start 53 1 Tryd.func68 rfl rfl rfl rfl ?_
  refine r1 ?_
  refine s1 2 1 1 rfl rfl rfl rfl rfl rfl trivial ?_
  refine s1 3 9 2 rfl rfl rfl rfl rfl rfl trivial ?_
  refine e1 17 rfl ?_
  refine keep [1, 2] rfl ?_
  refine r1 ?_
  refine s1 4 17 1 rfl rfl rfl rfl rfl rfl trivial ?_
  refine s1 5 25 2 rfl rfl rfl rfl rfl rfl (by first | trivial | omega) ?_
  refine c1 (in_any a.b 0 1048576) [] [] 6 33 3 rfl rfl rfl rfl rfl rfl rfl rfl Tryd.func66 rfl rfl rfl rfl trivial rfl rfl ?_
  refine s1 7 41 4 rfl rfl rfl rfl rfl rfl trivial ?_
  refine s1 8 49 5 rfl rfl rfl rfl rfl rfl trivial ?_
  refine joinB 12 17 20 (!inB a.b 0 1048576 || (!decide (a.e = -1) && !inB a.e a.b 1048576)) [1, 2, 8] [1, 2] rfl rfl rfl rfl ?_ (fun hj1_16 => ?_)
  · skip
    refine s1 21 153 18 rfl rfl rfl rfl rfl rfl trivial ?_
    refine ask 21 rfl (fun hg1_21 => ?_) (fun hg1_21 => ?_)
    · skip
      try simp only [cs, ne_eq] at hg1_21
      refine g0 17 false 21 22 19 rfl rfl rfl rfl rfl rfl ?_
      refine g0 17 false 21 23 20 rfl rfl rfl rfl rfl rfl ?_
      refine g0 17 false 21 24 21 rfl rfl rfl rfl rfl rfl ?_
      refine g0 17 false 21 25 22 rfl rfl rfl rfl rfl rfl ?_
      refine gz 21 true 25 26 23 rfl rfl rfl rfl rfl rfl ?_
      refine gz 21 true 25 27 24 rfl rfl rfl rfl rfl rfl ?_
      refine gz 21 true 25 28 25 rfl rfl rfl rfl rfl rfl ?_
      refine gz 24 false 28 29 26 rfl rfl rfl rfl rfl rfl ?_
      refine gz 24 false 28 30 27 rfl rfl rfl rfl rfl rfl ?_
      refine gz 24 false 28 31 28 rfl rfl rfl rfl rfl rfl ?_
      refine gz 21 true 25 32 29 rfl rfl rfl rfl rfl rfl ?_
      refine g0 17 false 21 33 30 rfl rfl rfl rfl rfl rfl ?_
      refine s1 34 257 31 rfl rfl rfl rfl rfl rfl trivial ?_
      refine s1 35 265 32 rfl rfl rfl rfl rfl rfl trivial ?_
      refine g0 31 false 35 36 33 rfl rfl rfl rfl rfl rfl ?_
      refine g0 31 false 35 37 34 rfl rfl rfl rfl rfl rfl ?_
      refine g0 31 false 35 38 35 rfl rfl rfl rfl rfl rfl ?_
      refine gz 34 true 38 39 36 rfl rfl rfl rfl rfl rfl ?_
      refine gz 34 true 38 40 37 rfl rfl rfl rfl rfl rfl ?_
      refine gz 34 true 38 41 38 rfl rfl rfl rfl rfl rfl ?_
      refine g0 31 false 35 42 39 rfl rfl rfl rfl rfl rfl ?_
      refine g0 31 false 35 43 40 rfl rfl rfl rfl rfl rfl ?_
      refine gz 39 true 43 44 41 rfl rfl rfl rfl rfl rfl ?_
      refine gz 39 true 43 45 42 rfl rfl rfl rfl rfl rfl ?_
      refine gz 39 true 43 46 43 rfl rfl rfl rfl rfl rfl ?_
      refine gz 42 false 46 47 44 rfl rfl rfl rfl rfl rfl ?_
      refine gz 42 false 46 48 45 rfl rfl rfl rfl rfl rfl ?_
      refine gz 42 false 46 49 46 rfl rfl rfl rfl rfl rfl ?_
      refine gz 39 true 43 50 47 rfl rfl rfl rfl rfl rfl ?_
      refine g0 31 false 35 51 48 rfl rfl rfl rfl rfl rfl ?_
      refine s1 52 401 49 rfl rfl rfl rfl rfl rfl trivial ?_
      refine s1 3 409 50 rfl rfl rfl rfl rfl rfl trivial ?_
      refine e1 417 rfl ?_
      refine keep [3] rfl ?_
      refine W_ret ?_
      exact out1 3 (SV.b (oddB k a)) (π := [0]) (hout := [some (.cells 3 1 [SV.i k])]) Tryd.results68 rfl (by show SV.b _ = SV.b _; refine congrArg SV.b (Bool.eq_iff_iff.2 ?_); cases hp : a.p <;> simp [oddB, inB, heldB, hp] at * <;> omega) rfl rfl ⟨rfl, trivial⟩ ⟨rfl, rfl⟩
    try simp only [cs, ne_eq] at hg1_21
    refine g1 17 false 21 22 19 rfl rfl rfl rfl rfl ?_
    refine s1 22 161 19 rfl rfl rfl rfl rfl rfl trivial ?_
    refine g1 17 false 21 23 20 rfl rfl rfl rfl rfl ?_
    refine s1 23 169 20 rfl rfl rfl rfl rfl rfl (by first | trivial | omega) ?_
    refine g1 17 false 21 24 21 rfl rfl rfl rfl rfl ?_
    refine s1 24 177 21 rfl rfl rfl rfl rfl rfl (by first | trivial | omega) ?_
    refine g1 17 false 21 25 22 rfl rfl rfl rfl rfl ?_
    refine s1 25 185 22 rfl rfl rfl rfl rfl rfl trivial ?_
    refine joinB 8 30 33 (!decide (a.y = 0) && (!decide (k = 2) || !a.p)) [1, 2, 21, 25] [1, 2, 21] rfl rfl rfl rfl ?_ (fun hj1_29 => ?_)
    · skip
      refine s1 34 257 31 rfl rfl rfl rfl rfl rfl trivial ?_
      refine s1 35 265 32 rfl rfl rfl rfl rfl rfl trivial ?_
      refine ask 35 rfl (fun hg1_35 => ?_) (fun hg1_35 => ?_)
      · skip
        try simp only [cs, ne_eq] at hg1_35
        refine g0 31 false 35 36 33 rfl rfl rfl rfl rfl rfl ?_
        refine g0 31 false 35 37 34 rfl rfl rfl rfl rfl rfl ?_
        refine g0 31 false 35 38 35 rfl rfl rfl rfl rfl rfl ?_
        refine gz 34 true 38 39 36 rfl rfl rfl rfl rfl rfl ?_
        refine gz 34 true 38 40 37 rfl rfl rfl rfl rfl rfl ?_
        refine gz 34 true 38 41 38 rfl rfl rfl rfl rfl rfl ?_
        refine g0 31 false 35 42 39 rfl rfl rfl rfl rfl rfl ?_
        refine g0 31 false 35 43 40 rfl rfl rfl rfl rfl rfl ?_
        refine gz 39 true 43 44 41 rfl rfl rfl rfl rfl rfl ?_
        refine gz 39 true 43 45 42 rfl rfl rfl rfl rfl rfl ?_
        refine gz 39 true 43 46 43 rfl rfl rfl rfl rfl rfl ?_
        refine gz 42 false 46 47 44 rfl rfl rfl rfl rfl rfl ?_
        refine gz 42 false 46 48 45 rfl rfl rfl rfl rfl rfl ?_
        refine gz 42 false 46 49 46 rfl rfl rfl rfl rfl rfl ?_
        refine gz 39 true 43 50 47 rfl rfl rfl rfl rfl rfl ?_
        refine g0 31 false 35 51 48 rfl rfl rfl rfl rfl rfl ?_
        refine s1 52 401 49 rfl rfl rfl rfl rfl rfl trivial ?_
        refine s1 3 409 50 rfl rfl rfl rfl rfl rfl trivial ?_
        refine e1 417 rfl ?_
        refine keep [3] rfl ?_
        refine W_ret ?_
        exact out1 3 (SV.b (oddB k a)) (π := [0]) (hout := [some (.cells 3 1 [SV.i k])]) Tryd.results68 rfl (by show SV.b _ = SV.b _; refine congrArg SV.b (Bool.eq_iff_iff.2 ?_); cases hp : a.p <;> simp [oddB, inB, heldB, hp] at * <;> omega) rfl rfl ⟨rfl, trivial⟩ ⟨rfl, rfl⟩
      try simp only [cs, ne_eq] at hg1_35
      refine g1 31 false 35 36 33 rfl rfl rfl rfl rfl ?_
      refine s1 36 273 33 rfl rfl rfl rfl rfl rfl (by first | trivial | omega) ?_
      refine g1 31 false 35 37 34 rfl rfl rfl rfl rfl ?_
      refine c1 (held_any k) [] [] 37 281 34 rfl rfl rfl rfl rfl rfl rfl rfl Tryd.func69 rfl rfl rfl rfl trivial rfl rfl ?_
      refine g1 31 false 35 38 35 rfl rfl rfl rfl rfl ?_
      refine s1 38 289 35 rfl rfl rfl rfl rfl rfl trivial ?_
      refine joinB 4 39 42 (heldB k && decide (a.v < 0)) [2, 35, 38] [2, 35] rfl rfl rfl rfl ?_ (fun hj1_38 => ?_)
      · skip
        refine g1 31 false 35 43 40 rfl rfl rfl rfl rfl ?_
        refine s1 43 329 40 rfl rfl rfl rfl rfl rfl trivial ?_
        refine ask 43 rfl (fun hg1_43 => ?_) (fun hg1_43 => ?_)
        · skip
          try simp only [cs, ne_eq] at hg1_43
          refine g1 39 true 43 44 41 rfl rfl rfl rfl rfl ?_
          refine s1 44 337 41 rfl rfl rfl rfl rfl rfl trivial ?_
          refine g1 39 true 43 45 42 rfl rfl rfl rfl rfl ?_
          refine s1 45 345 42 rfl rfl rfl rfl rfl rfl (by first | trivial | omega) ?_
          refine g1 39 true 43 46 43 rfl rfl rfl rfl rfl ?_
          refine s1 46 353 43 rfl rfl rfl rfl rfl rfl trivial ?_
          refine ask 46 rfl (fun hg1_46 => ?_) (fun hg1_46 => ?_)
          · skip
            try simp only [cs, ne_eq] at hg1_46
            refine g0 42 false 46 47 44 rfl rfl rfl rfl rfl rfl ?_
            refine g0 42 false 46 48 45 rfl rfl rfl rfl rfl rfl ?_
            refine g0 42 false 46 49 46 rfl rfl rfl rfl rfl rfl ?_
            refine g1 39 true 43 50 47 rfl rfl rfl rfl rfl ?_
            refine s1 50 385 47 rfl rfl rfl rfl rfl rfl trivial ?_
            refine g1 31 false 35 51 48 rfl rfl rfl rfl rfl ?_
            refine s1 51 393 48 rfl rfl rfl rfl rfl rfl trivial ?_
            refine s1 52 401 49 rfl rfl rfl rfl rfl rfl trivial ?_
            refine s1 3 409 50 rfl rfl rfl rfl rfl rfl trivial ?_
            refine e1 417 rfl ?_
            refine keep [3] rfl ?_
            refine W_ret ?_
            exact out1 3 (SV.b (oddB k a)) (π := [0]) (hout := [some (.cells 3 1 [SV.i k])]) Tryd.results68 rfl (by show SV.b _ = SV.b _; refine congrArg SV.b (Bool.eq_iff_iff.2 ?_); cases hp : a.p <;> simp [oddB, inB, heldB, hp] at * <;> omega) rfl rfl ⟨rfl, trivial⟩ ⟨rfl, rfl⟩
          try simp only [cs, ne_eq] at hg1_46
          refine g1 42 false 46 47 44 rfl rfl rfl rfl rfl ?_
          refine s1 47 361 44 rfl rfl rfl rfl rfl rfl trivial ?_
          refine g1 42 false 46 48 45 rfl rfl rfl rfl rfl ?_
          refine s1 48 369 45 rfl rfl rfl rfl rfl rfl (by first | trivial | omega) ?_
          refine g1 42 false 46 49 46 rfl rfl rfl rfl rfl ?_
          refine s1 49 377 46 rfl rfl rfl rfl rfl rfl (by first | trivial | omega) ?_
          refine g1 39 true 43 50 47 rfl rfl rfl rfl rfl ?_
          refine s1 50 385 47 rfl rfl rfl rfl rfl rfl trivial ?_
          refine g1 31 false 35 51 48 rfl rfl rfl rfl rfl ?_
          refine s1 51 393 48 rfl rfl rfl rfl rfl rfl trivial ?_
          refine s1 52 401 49 rfl rfl rfl rfl rfl rfl trivial ?_
          refine s1 3 409 50 rfl rfl rfl rfl rfl rfl trivial ?_
          refine e1 417 rfl ?_
          refine keep [3] rfl ?_
          refine W_ret ?_
          exact out1 3 (SV.b (oddB k a)) (π := [0]) (hout := [some (.cells 3 1 [SV.i k])]) Tryd.results68 rfl (by show SV.b _ = SV.b _; refine congrArg SV.b (Bool.eq_iff_iff.2 ?_); cases hp : a.p <;> simp [oddB, inB, heldB, hp] at * <;> omega) rfl rfl ⟨rfl, trivial⟩ ⟨rfl, rfl⟩
        try simp only [cs, ne_eq] at hg1_43
        refine g0 39 true 43 44 41 rfl rfl rfl rfl rfl rfl ?_
        refine g0 39 true 43 45 42 rfl rfl rfl rfl rfl rfl ?_
        refine g0 39 true 43 46 43 rfl rfl rfl rfl rfl rfl ?_
        refine gz 42 false 46 47 44 rfl rfl rfl rfl rfl rfl ?_
        refine gz 42 false 46 48 45 rfl rfl rfl rfl rfl rfl ?_
        refine gz 42 false 46 49 46 rfl rfl rfl rfl rfl rfl ?_
        refine g0 39 true 43 50 47 rfl rfl rfl rfl rfl rfl ?_
        refine g1 31 false 35 51 48 rfl rfl rfl rfl rfl ?_
        refine s1 51 393 48 rfl rfl rfl rfl rfl rfl trivial ?_
        refine s1 52 401 49 rfl rfl rfl rfl rfl rfl trivial ?_
        refine s1 3 409 50 rfl rfl rfl rfl rfl rfl trivial ?_
        refine e1 417 rfl ?_
        refine keep [3] rfl ?_
        refine W_ret ?_
        exact out1 3 (SV.b (oddB k a)) (π := [0]) (hout := [some (.cells 3 1 [SV.i k])]) Tryd.results68 rfl (by show SV.b _ = SV.b _; refine congrArg SV.b (Bool.eq_iff_iff.2 ?_); cases hp : a.p <;> simp [oddB, inB, heldB, hp] at * <;> omega) rfl rfl ⟨rfl, trivial⟩ ⟨rfl, rfl⟩
      refine ask 38 rfl (fun hg1_38 => ?_) (fun hg1_38 => ?_)
      · skip
        try simp only [cs, ne_eq] at hg1_38
        refine g1 34 true 38 39 36 rfl rfl rfl rfl rfl ?_
        refine s1 39 297 36 rfl rfl rfl rfl rfl rfl trivial ?_
        refine g1 34 true 38 40 37 rfl rfl rfl rfl rfl ?_
        refine s1 40 305 37 rfl rfl rfl rfl rfl rfl (by first | trivial | omega) ?_
        refine g1 34 true 38 41 38 rfl rfl rfl rfl rfl ?_
        refine s1 41 313 38 rfl rfl rfl rfl rfl rfl (by first | trivial | omega) ?_
        refine g1 31 false 35 42 39 rfl rfl rfl rfl rfl ?_
        refine s1 42 321 39 rfl rfl rfl rfl rfl rfl trivial ?_
        exact joinEnd hj1_38 rfl (by clear hj1_38; refine Bool.eq_iff_iff.2 ?_; cases hp : a.p <;> simp [inB, heldB, hp] at * <;> omega) ⟨rfl, rfl, trivial⟩
      try simp only [cs, ne_eq] at hg1_38
      refine g0 34 true 38 39 36 rfl rfl rfl rfl rfl rfl ?_
      refine g0 34 true 38 40 37 rfl rfl rfl rfl rfl rfl ?_
      refine g0 34 true 38 41 38 rfl rfl rfl rfl rfl rfl ?_
      refine g1 31 false 35 42 39 rfl rfl rfl rfl rfl ?_
      refine s1 42 321 39 rfl rfl rfl rfl rfl rfl trivial ?_
      exact joinEnd hj1_38 rfl (by clear hj1_38; refine Bool.eq_iff_iff.2 ?_; cases hp : a.p <;> simp [inB, heldB, hp] at * <;> omega) ⟨rfl, rfl, trivial⟩
    refine ask 25 rfl (fun hg1_25 => ?_) (fun hg1_25 => ?_)
    · skip
      try simp only [cs, ne_eq] at hg1_25
      refine g1 21 true 25 26 23 rfl rfl rfl rfl rfl ?_
      refine s1 26 193 23 rfl rfl rfl rfl rfl rfl (by first | trivial | omega) ?_
      refine g1 21 true 25 27 24 rfl rfl rfl rfl rfl ?_
      refine s1 27 201 24 rfl rfl rfl rfl rfl rfl (by first | trivial | omega) ?_
      refine g1 21 true 25 28 25 rfl rfl rfl rfl rfl ?_
      refine s1 28 209 25 rfl rfl rfl rfl rfl rfl trivial ?_
      refine ask 28 rfl (fun hg1_28 => ?_) (fun hg1_28 => ?_)
      · skip
        try simp only [cs, ne_eq] at hg1_28
        refine g0 24 false 28 29 26 rfl rfl rfl rfl rfl rfl ?_
        refine g0 24 false 28 30 27 rfl rfl rfl rfl rfl rfl ?_
        refine g0 24 false 28 31 28 rfl rfl rfl rfl rfl rfl ?_
        refine g1 21 true 25 32 29 rfl rfl rfl rfl rfl ?_
        refine s1 32 241 29 rfl rfl rfl rfl rfl rfl trivial ?_
        refine g1 17 false 21 33 30 rfl rfl rfl rfl rfl ?_
        refine s1 33 249 30 rfl rfl rfl rfl rfl rfl trivial ?_
        exact joinEnd hj1_29 rfl (by clear hj1_29; refine Bool.eq_iff_iff.2 ?_; cases hp : a.p <;> simp [inB, heldB, hp] at * <;> omega) ⟨rfl, rfl, rfl, trivial⟩
      try simp only [cs, ne_eq] at hg1_28
      refine g1 24 false 28 29 26 rfl rfl rfl rfl rfl ?_
      refine s1 29 217 26 rfl rfl rfl rfl rfl rfl trivial ?_
      refine g1 24 false 28 30 27 rfl rfl rfl rfl rfl ?_
      refine s1 30 225 27 rfl rfl rfl rfl rfl rfl (by first | trivial | omega) ?_
      refine g1 24 false 28 31 28 rfl rfl rfl rfl rfl ?_
      refine s1 31 233 28 rfl rfl rfl rfl rfl rfl trivial ?_
      refine g1 21 true 25 32 29 rfl rfl rfl rfl rfl ?_
      refine s1 32 241 29 rfl rfl rfl rfl rfl rfl trivial ?_
      refine g1 17 false 21 33 30 rfl rfl rfl rfl rfl ?_
      refine s1 33 249 30 rfl rfl rfl rfl rfl rfl trivial ?_
      exact joinEnd hj1_29 rfl (by clear hj1_29; refine Bool.eq_iff_iff.2 ?_; cases hp : a.p <;> simp [inB, heldB, hp] at * <;> omega) ⟨rfl, rfl, rfl, trivial⟩
    try simp only [cs, ne_eq] at hg1_25
    refine g0 21 true 25 26 23 rfl rfl rfl rfl rfl rfl ?_
    refine g0 21 true 25 27 24 rfl rfl rfl rfl rfl rfl ?_
    refine g0 21 true 25 28 25 rfl rfl rfl rfl rfl rfl ?_
    refine gz 24 false 28 29 26 rfl rfl rfl rfl rfl rfl ?_
    refine gz 24 false 28 30 27 rfl rfl rfl rfl rfl rfl ?_
    refine gz 24 false 28 31 28 rfl rfl rfl rfl rfl rfl ?_
    refine g0 21 true 25 32 29 rfl rfl rfl rfl rfl rfl ?_
    refine g1 17 false 21 33 30 rfl rfl rfl rfl rfl ?_
    refine s1 33 249 30 rfl rfl rfl rfl rfl rfl trivial ?_
    exact joinEnd hj1_29 rfl (by clear hj1_29; refine Bool.eq_iff_iff.2 ?_; cases hp : a.p <;> simp [inB, heldB, hp] at * <;> omega) ⟨rfl, rfl, rfl, trivial⟩
  refine ask 8 rfl (fun hg1_8 => ?_) (fun hg1_8 => ?_)
  · skip
    try simp only [cs, ne_eq] at hg1_8
    refine g0 4 false 8 9 6 rfl rfl rfl rfl rfl rfl ?_
    refine g0 4 false 8 10 7 rfl rfl rfl rfl rfl rfl ?_
    refine g0 4 false 8 11 8 rfl rfl rfl rfl rfl rfl ?_
    refine g0 4 false 8 12 9 rfl rfl rfl rfl rfl rfl ?_
    refine gz 8 true 12 13 10 rfl rfl rfl rfl rfl rfl ?_
    refine gz 8 true 12 14 11 rfl rfl rfl rfl rfl rfl ?_
    refine gz 8 true 12 15 12 rfl rfl rfl rfl rfl rfl ?_
    refine gz 8 true 12 16 13 rfl rfl rfl rfl rfl rfl ?_
    refine gz 8 true 12 17 14 rfl rfl rfl rfl rfl rfl ?_
    refine gz 8 true 12 18 15 rfl rfl rfl rfl rfl rfl ?_
    refine g0 4 false 8 19 16 rfl rfl rfl rfl rfl rfl ?_
    refine s1 20 145 17 rfl rfl rfl rfl rfl rfl trivial ?_
    exact joinEnd hj1_16 rfl (by clear hj1_16; refine Bool.eq_iff_iff.2 ?_; cases hp : a.p <;> simp [inB, heldB, hp] at * <;> omega) ⟨rfl, rfl, trivial⟩
  try simp only [cs, ne_eq] at hg1_8
  refine g1 4 false 8 9 6 rfl rfl rfl rfl rfl ?_
  refine s1 9 57 6 rfl rfl rfl rfl rfl rfl trivial ?_
  refine g1 4 false 8 10 7 rfl rfl rfl rfl rfl ?_
  refine s1 10 65 7 rfl rfl rfl rfl rfl rfl (by first | trivial | omega) ?_
  refine g1 4 false 8 11 8 rfl rfl rfl rfl rfl ?_
  refine s1 11 73 8 rfl rfl rfl rfl rfl rfl (by first | trivial | omega) ?_
  refine g1 4 false 8 12 9 rfl rfl rfl rfl rfl ?_
  refine s1 12 81 9 rfl rfl rfl rfl rfl rfl trivial ?_
  refine ask 12 rfl (fun hg1_12 => ?_) (fun hg1_12 => ?_)
  · skip
    try simp only [cs, ne_eq] at hg1_12
    refine g1 8 true 12 13 10 rfl rfl rfl rfl rfl ?_
    refine s1 13 89 10 rfl rfl rfl rfl rfl rfl trivial ?_
    refine g1 8 true 12 14 11 rfl rfl rfl rfl rfl ?_
    refine s1 14 97 11 rfl rfl rfl rfl rfl rfl (by first | trivial | omega) ?_
    refine g1 8 true 12 15 12 rfl rfl rfl rfl rfl ?_
    refine s1 15 105 12 rfl rfl rfl rfl rfl rfl trivial ?_
    refine g1 8 true 12 16 13 rfl rfl rfl rfl rfl ?_
    refine s1 16 113 13 rfl rfl rfl rfl rfl rfl (by first | trivial | omega) ?_
    refine g1 8 true 12 17 14 rfl rfl rfl rfl rfl ?_
    refine c1 (in_any a.e a.b 1048576) [] [] 17 121 14 rfl rfl rfl rfl rfl rfl rfl rfl Tryd.func66 rfl rfl rfl rfl trivial rfl rfl ?_
    refine g1 8 true 12 18 15 rfl rfl rfl rfl rfl ?_
    refine s1 18 129 15 rfl rfl rfl rfl rfl rfl trivial ?_
    refine g1 4 false 8 19 16 rfl rfl rfl rfl rfl ?_
    refine s1 19 137 16 rfl rfl rfl rfl rfl rfl trivial ?_
    refine s1 20 145 17 rfl rfl rfl rfl rfl rfl trivial ?_
    exact joinEnd hj1_16 rfl (by clear hj1_16; refine Bool.eq_iff_iff.2 ?_; cases hp : a.p <;> simp [inB, heldB, hp] at * <;> omega) ⟨rfl, rfl, trivial⟩
  try simp only [cs, ne_eq] at hg1_12
  refine g0 8 true 12 13 10 rfl rfl rfl rfl rfl rfl ?_
  refine g0 8 true 12 14 11 rfl rfl rfl rfl rfl rfl ?_
  refine g0 8 true 12 15 12 rfl rfl rfl rfl rfl rfl ?_
  refine g0 8 true 12 16 13 rfl rfl rfl rfl rfl rfl ?_
  refine g0 8 true 12 17 14 rfl rfl rfl rfl rfl rfl ?_
  refine g0 8 true 12 18 15 rfl rfl rfl rfl rfl rfl ?_
  refine g1 4 false 8 19 16 rfl rfl rfl rfl rfl ?_
  refine s1 19 137 16 rfl rfl rfl rfl rfl rfl trivial ?_
  refine s1 20 145 17 rfl rfl rfl rfl rfl rfl trivial ?_
  exact joinEnd hj1_16 rfl (by clear hj1_16; refine Bool.eq_iff_iff.2 ?_; cases hp : a.p <;> simp [inB, heldB, hp] at * <;> omega) ⟨rfl, rfl, trivial⟩


theorem getD_lt {l : List Act} {k : Nat} (h : k < l.length) : l.getD k default = l[k] := by simp [List.getD, List.getElem?_eq_getElem h]
theorem idx_found {l : List Act} {p : Act → Bool} {k : Nat} (h : k < l.length) (hp : p (l.getD k default) = true) (hn : ∀ j, j < k → p (l.getD j default) = false) : idx l p = k := by
  unfold idx
  have : l.findIdx? p = some k := by
    rw [List.findIdx?_eq_some_iff_getElem]
    refine ⟨h, by rw [← getD_lt h]; exact hp, fun j hj => by have := hn j hj; rw [getD_lt (by omega)] at this; simp [this]⟩
  rw [this]
theorem idx_none {l : List Act} {p : Act → Bool} (hn : ∀ j, j < l.length → p (l.getD j default) = false) : idx l p = -1 := by
  unfold idx
  have : l.findIdx? p = none := by
    rw [List.findIdx?_eq_none_iff]
    intro x hx
    obtain ⟨j, hj, rfl⟩ := List.mem_iff_getElem.1 hx
    rw [← getD_lt hj]; exact hn j hj
  rw [this]
theorem idx_any {l : List Act} {p : Act → Bool} : decide (idx l p ≥ 0) = l.any p := by
  unfold idx
  cases h : l.findIdx? p with
  | none =>
    rw [List.findIdx?_eq_none_iff] at h
    have : l.any p = false := by rw [List.any_eq_false]; intro x hx; simp [h x hx]
    rw [this]; rfl
  | some i =>
    rw [List.findIdx?_eq_some_iff_getElem] at h
    obtain ⟨hi, hp, _⟩ := h
    have : l.any p = true := by rw [List.any_eq_true]; exact ⟨_, List.getElem_mem hi, hp⟩
    rw [this]; simp

theorem index_any (k : Int) (l : List Act) (hl : l.length ≤ 9223372036854775807) : Spec Tryd.prog G0 77 [actsV l, .fn 68 [.ptr 0 0 0]] [.cells 3 1 [SV.i k]] (fun r ho => r = SV.i (idx l (oddB k)) ∧ ho = [some (.cells 3 1 [SV.i k])]) := by
  refine start 19 1 Tryd.func77 rfl rfl rfl rfl ?_
  refine r1 ?_
  refine s1 4 1 1 rfl rfl rfl rfl rfl rfl trivial ?_
  refine e1 9 rfl ?_
  refine keep [0, 1] rfl ?_
  refine W_seq ?_
  refine r1 ?_
  refine s1 6 9 1 rfl rfl rfl rfl rfl rfl trivial ?_
  refine s1 7 17 2 rfl rfl rfl rfl rfl rfl (by first | trivial | omega) ?_
  refine s1 8 25 3 rfl rfl rfl rfl rfl rfl trivial ?_
  refine e1 33 rfl ?_
  refine keep [0, 1, 7, 8] rfl ?_
  refine W_block ?_
  refine loop (α := Nat) 1 (fun n => [(0, actsV l), (1, .fn 68 [.ptr 0 0 0]), (7, SV.i l.length), (8, SV.i n)]) (fun n => [some (.cells 3 1 [SV.i k])]) (fun n => n ≤ l.length ∧ ∀ j, j < n → oddB k (l.getD j default) = false) (fun n => l.length - n) (0) [0] (fun _ => rfl) ⟨Nat.zero_le _, fun j hj => by omega⟩ rfl ⟨rfl, rfl, rfl, rfl, trivial⟩ ⟨rfl, trivial⟩ (fun n hx => ?_)
  obtain ⟨hn, hno⟩ := hx
  refine r1 ?_
  refine s1 9 1 1 rfl rfl rfl rfl rfl rfl (by first | trivial | omega) ?_
  refine e1 9 rfl ?_
  refine keep [0, 1, 7, 8, 9] rfl ?_
  refine W_seq ?_
  refine q1 rfl (fun hc2 => ?_) (fun hc2 => ?_)
  · skip
    try simp only [cs, ne_eq] at hc2
    refine W_skip ?_
    refine tn ?_
    refine W_seq ?_
    refine W_block ?_
    refine r1 ?_
    refine s1 10 9 1 rfl rfl rfl rfl rfl rfl trivial ?_
    refine s1 5 17 2 rfl rfl rfl rfl rfl rfl trivial ?_
    refine e1 25 rfl ?_
    refine keep [0, 1, 5, 7, 8] rfl ?_
    refine r1 ?_
    refine s1 11 25 1 rfl rfl rfl rfl rfl rfl trivial ?_
    refine s1 12 33 2 rfl rfl rfl rfl rfl rfl trivial ?_
    refine s1 13 41 3 rfl rfl rfl rfl rfl rfl trivial ?_
    refine s1 14 49 4 rfl rfl rfl rfl rfl rfl (by first | trivial | omega) ?_
    refine s1 15 57 5 rfl rfl rfl rfl rfl rfl (by first | trivial | omega) ?_
    refine c1 (odd_any k (l.getD n default)) [0] [0] 16 65 6 rfl rfl rfl rfl rfl rfl rfl rfl Tryd.func68 rfl rfl rfl rfl ⟨rfl, trivial⟩ rfl rfl ?_
    refine e1 73 rfl ?_
    refine keep [0, 1, 5, 7, 8, 16] rfl ?_
    refine q1 rfl (fun hc4 => ?_) (fun hc4 => ?_)
    · skip
      try simp only [cs, ne_eq] at hc4
      refine r1 ?_
      refine s1 17 73 1 rfl rfl rfl rfl rfl rfl trivial ?_
      refine s1 4 81 2 rfl rfl rfl rfl rfl rfl trivial ?_
      refine e1 89 rfl ?_
      refine keep [4] rfl ?_
      refine W_ret ?_
      refine br ?_
      refine tr ?_
      refine tr ?_
      refine br ?_
      refine tr ?_
      exact out1 4 (SV.i (idx l (oddB k))) (π := [0]) (hout := [some (.cells 3 1 [SV.i k])]) Tryd.results77 rfl (by rw [idx_found (by omega) hc4 hno]; rfl) rfl rfl ⟨rfl, trivial⟩ ⟨rfl, rfl⟩
    try simp only [cs, ne_eq] at hc4
    refine W_skip ?_
    refine bn ?_
    refine tn ?_
    refine r0 ?_
    refine sA 18 73 1 rfl rfl rfl rfl rfl rfl rfl rfl rfl (by unfold inRange; omega) ?_
    refine s1 8 81 2 rfl rfl rfl rfl rfl rfl trivial ?_
    refine e1 89 rfl ?_
    refine tn ?_
    exact again (n + 1) [0] ⟨by omega, fun j hj => by by_cases e : j = n; (subst e; exact hc4); exact hno j (by omega)⟩ (by omega) rfl ⟨rfl, rfl, rfl, rfl, trivial⟩ ⟨rfl, trivial⟩
  try simp only [cs, ne_eq] at hc2
  refine W_exit ?_
  refine tx ?_
  refine tx ?_
  refine bx ?_
  refine tn ?_
  refine r1 ?_
  refine s1 4 9 1 rfl rfl rfl rfl rfl rfl trivial ?_
  refine e1 17 rfl ?_
  refine keep [4] rfl ?_
  refine W_ret ?_
  exact out1 4 (SV.i (idx l (oddB k))) (π := [0]) (hout := [some (.cells 3 1 [SV.i k])]) Tryd.results77 rfl (by rw [idx_none (fun j hj => hno j (by omega))]; rfl) rfl rfl ⟨rfl, trivial⟩ ⟨rfl, rfl⟩

theorem contains_any (k : Int) (l : List Act) (hl : l.length ≤ 9223372036854775807) : Spec Tryd.prog G0 67 [actsV l, .fn 68 [.ptr 0 0 0]] [.cells 3 1 [SV.i k]] (fun r ho => r = SV.b (l.any (oddB k)) ∧ ho = [some (.cells 3 1 [SV.i k])]) := by
  refine start 9 1 Tryd.func67 rfl rfl rfl rfl ?_
  refine r1 ?_
  refine s1 4 1 1 rfl rfl rfl rfl rfl rfl trivial ?_
  refine e1 9 rfl ?_
  refine keep [0, 1] rfl ?_
  refine r1 ?_
  refine s1 5 9 1 rfl rfl rfl rfl rfl rfl trivial ?_
  refine s1 6 17 2 rfl rfl rfl rfl rfl rfl trivial ?_
  refine c1 (index_any k l hl) [0] [0] 7 25 3 rfl rfl rfl rfl rfl rfl rfl rfl Tryd.func77 rfl rfl rfl rfl ⟨rfl, trivial⟩ rfl rfl ?_
  refine s1 8 33 4 rfl rfl rfl rfl rfl rfl (by first | trivial | omega) ?_
  refine s1 4 41 5 rfl rfl rfl rfl rfl rfl trivial ?_
  refine e1 49 rfl ?_
  refine keep [4] rfl ?_
  refine W_ret ?_
  exact out1 4 (SV.b (l.any (oddB k))) (π := [0]) (hout := [some (.cells 3 1 [SV.i k])]) Tryd.results67 rfl (congrArg SV.b idx_any) rfl rfl ⟨rfl, trivial⟩ ⟨rfl, rfl⟩

theorem may_any (k : Int) (l : List Act) (hl : l.length ≤ 9223372036854775807) : Spec Tryd.prog G0 46 [SV.i k, actsV l] [] (fun r ho => r = SV.b (mayB k l) ∧ ho = []) := by
  refine start 17 0 Tryd.func46 rfl rfl rfl rfl ?_
  refine r1 ?_
  refine s1 2 0 1 rfl rfl rfl rfl rfl rfl trivial ?_
  refine s1 4 8 2 rfl rfl rfl rfl rfl rfl trivial ?_
  refine e1 16 rfl ?_
  refine keep [1, 2] rfl ?_
  refine W_seq ?_
  refine r1 ?_
  refine s1 5 16 1 rfl rfl rfl rfl rfl rfl (by first | trivial | omega) ?_
  refine c1 (in_any k 1 4) [] [] 6 24 2 rfl rfl rfl rfl rfl rfl rfl rfl Tryd.func66 rfl rfl rfl rfl trivial rfl rfl ?_
  refine s1 7 32 3 rfl rfl rfl rfl rfl rfl trivial ?_
  refine s1 8 40 4 rfl rfl rfl rfl rfl rfl trivial ?_
  refine joinB 4 8 12 (!(inB k 1 4) || decide (9 < l.length)) [1, 2, 8] [1, 2] rfl rfl rfl rfl ?_ (fun hj1_7 => ?_)
  · skip
    refine e1 80 rfl ?_
    refine keep [1, 2, 12] rfl ?_
    refine q1 rfl (fun hc1 => ?_) (fun hc1 => ?_)
    · skip
      try simp only [cs, ne_eq] at hc1
      refine r1 ?_
      refine s1 4 80 1 rfl rfl rfl rfl rfl rfl trivial ?_
      refine e1 88 rfl ?_
      refine keep [4] rfl ?_
      refine W_ret ?_
      refine tr ?_
      exact out1 4 (SV.b (mayB k l)) (π := []) (hout := []) Tryd.results46 rfl (by show SV.b _ = SV.b _; refine congrArg SV.b (Bool.eq_iff_iff.2 ?_); cases hq : l.any (oddB k) <;> simp [mayB, inB, hq] at * <;> omega) rfl rfl trivial ⟨rfl, rfl⟩
    try simp only [cs, ne_eq] at hc1
    refine W_skip ?_
    refine tn ?_
    refine r1 ?_
    refine s1 13 80 1 rfl rfl rfl rfl rfl rfl trivial ?_
    refine s1 14 88 2 rfl rfl rfl rfl rfl rfl trivial ?_
    refine c1 (contains_any k l hl) [0] [0] 15 96 3 rfl rfl rfl rfl rfl rfl rfl rfl Tryd.func67 rfl rfl rfl rfl ⟨rfl, trivial⟩ rfl rfl ?_
    refine s1 16 104 4 rfl rfl rfl rfl rfl rfl trivial ?_
    refine s1 4 112 5 rfl rfl rfl rfl rfl rfl trivial ?_
    refine e1 120 rfl ?_
    refine keep [4] rfl ?_
    refine W_ret ?_
    exact out1 4 (SV.b (mayB k l)) (π := []) (hout := []) Tryd.results46 rfl (by show SV.b _ = SV.b _; refine congrArg SV.b (Bool.eq_iff_iff.2 ?_); cases hq : l.any (oddB k) <;> simp [mayB, inB, hq] at * <;> omega) rfl rfl trivial ⟨rfl, rfl⟩
  refine ask 8 rfl (fun hg1_8 => ?_) (fun hg1_8 => ?_)
  · skip
    try simp only [cs, ne_eq] at hg1_8
    refine g0 3 false 8 9 5 rfl rfl rfl rfl rfl rfl ?_
    refine g0 3 false 8 10 6 rfl rfl rfl rfl rfl rfl ?_
    refine g0 3 false 8 11 7 rfl rfl rfl rfl rfl rfl ?_
    refine s1 12 72 8 rfl rfl rfl rfl rfl rfl trivial ?_
    exact joinEnd hj1_7 rfl (by clear hj1_7; refine Bool.eq_iff_iff.2 ?_; simp [inB] at *; omega) ⟨rfl, rfl, trivial⟩
  try simp only [cs, ne_eq] at hg1_8
  refine g1 3 false 8 9 5 rfl rfl rfl rfl rfl ?_
  refine s1 9 48 5 rfl rfl rfl rfl rfl rfl trivial ?_
  refine g1 3 false 8 10 6 rfl rfl rfl rfl rfl ?_
  refine s1 10 56 6 rfl rfl rfl rfl rfl rfl (by first | trivial | omega) ?_
  refine g1 3 false 8 11 7 rfl rfl rfl rfl rfl ?_
  refine s1 11 64 7 rfl rfl rfl rfl rfl rfl (by first | trivial | omega) ?_
  refine s1 12 72 8 rfl rfl rfl rfl rfl rfl trivial ?_
  exact joinEnd hj1_7 rfl (by clear hj1_7; refine Bool.eq_iff_iff.2 ?_; simp [inB] at *; omega) ⟨rfl, rfl, trivial⟩


theorem any_at {l : List Act} {p : Act → Bool} {n : Nat} (h : n < l.length) (hp : p (l.getD n default) = true) : l.any p = true := by
  rw [getD_lt h] at hp
  rw [List.any_eq_true]; exact ⟨_, List.getElem_mem h, hp⟩
theorem any_none {l : List Act} {p : Act → Bool} (hn : ∀ j, j < l.length → p (l.getD j default) = false) : l.any p = false := by
  rw [List.any_eq_false]
  intro x hx
  obtain ⟨j, hj, rfl⟩ := List.mem_iff_getElem.1 hx
  have := hn j hj; rw [getD_lt hj] at this; simp [this]



end Go.Proofs.YtnnjobmiepnedaaDoor.Nice.Lin

/- The objects of histories: what they have behind an act, and whether they are the same. -/
namespace Go.Proofs.YtnnjobmiepnedaaDoor.Nice.Lin
open Go
set_option linter.unusedVariables false
set_option linter.unusedSimpArgs false
set_option maxRecDepth 100000
set_option maxHeartbeats 4000000

def intsF (l : List Int) : Nat → Nat → D := fun i _ => .val (.int .i64 (l.getD i 0))
def intsV (l : List Int) : SV := .d (.vec 1 l.length (intsF l))
def intsB (l : List Int) : Blk := .rows 3 1 l.length (intsF l)
def wrp (x : Int) : Int := IntKind.i64.wrap x
theorem getG {α : Type} [Inhabited α] {l : List α} {k : Nat} {z : α} (h : k < l.length) : l.getD k z = l[k] := by simp [List.getD, h]
theorem ints_cat (l : List Int) (v : Int) (i c : Nat) (hi : i < l.length + 1) (hc : c < 1) : catR (intsF l) l.length (litR 1 [.val (.int .i64 v)]) i c = intsF (l ++ [v]) i c := by
  obtain rfl : c = 0 := by omega
  unfold catR intsF litR
  by_cases h : i < l.length
  · rw [if_pos h]; simp [List.getD, List.getElem?_append_left h]
  · obtain rfl : i = l.length := by omega
    rw [if_neg (Nat.lt_irrefl _), Nat.sub_self]
    simp [List.getD]
/-- An object: a register, a counter, a heap of numbers. -/
inductive Ob where
  | reg (n : Int)
  | cnt (n : Int)
  | hp (last : Bool) (l : List Int)
instance : Inhabited Ob := ⟨.reg 0⟩
def onext : Ob → Act → Ob × Int
  | .reg n, a => if a.p = true then (.reg a.v, a.v) else (.reg n, n)
  | .cnt n, a => (.cnt (wrp (n + a.y)), n)
  | .hp last l, a => if a.p = true then (.hp last (l ++ [a.v]), a.v) else if l.length = 0 then (.hp last l, -1) else if last = true then (.hp true (l.take (l.length - 1)), l.getD (l.length - 1) 0) else (.hp false (l.drop 1), l.getD 0 0)
theorem onext_reg_put {n : Int} {a : Act} (h : a.p = true) : onext (.reg n) a = (.reg a.v, a.v) := by show (if _ then _ else _) = _; rw [if_pos h]
theorem onext_reg_get {n : Int} {a : Act} (h : a.p = false) : onext (.reg n) a = (.reg n, n) := by show (if _ then _ else _) = _; rw [if_neg (by rw [h]; decide)]
theorem onext_put {b : Bool} {l : List Int} {a : Act} (h : a.p = true) : onext (.hp b l) a = (.hp b (l ++ [a.v]), a.v) := by show (if _ then _ else _) = _; rw [if_pos h]
theorem onext_none {b : Bool} {l : List Int} {a : Act} (h : a.p = false) (h2 : l.length = 0) : onext (.hp b l) a = (.hp b l, -1) := by show (if _ then _ else _) = _; rw [if_neg (by rw [h]; decide), if_pos h2]
theorem onext_last {b : Bool} {l : List Int} {a : Act} (h : a.p = false) (h2 : ¬ l.length = 0) (h3 : b = true) : onext (.hp b l) a = (.hp true (l.take (l.length - 1)), l.getD (l.length - 1) 0) := by show (if _ then _ else _) = _; rw [if_neg (by rw [h]; decide), if_neg h2, if_pos h3]
theorem onext_first {b : Bool} {l : List Int} {a : Act} (h : a.p = false) (h2 : ¬ l.length = 0) (h3 : b = false) : onext (.hp b l) a = (.hp false (l.drop 1), l.getD 0 0) := by show (if _ then _ else _) = _; rw [if_neg (by rw [h]; decide), if_neg h2, if_neg (by rw [h3]; decide)]
def osame : Ob → Ob → Bool
  | .reg a, .reg b => b == a
  | .cnt a, .cnt b => b == a
  | .hp _ a, .hp _ b => decide (b = a)
  | _, _ => false
/-- Of one kind. -/
def okind : Ob → Nat
  | .reg _ => 0
  | .cnt _ => 1
  | .hp false _ => 2
  | .hp true _ => 3
def osize : Ob → Nat
  | .hp _ l => l.length
  | _ => 0
def obPr (M : Imm) : Ob → Value → Prop
  | .reg n, v => v = .iface 92 (.int .i64 n)
  | .cnt n, v => v = .iface 93 (.int .i64 n)
  | .hp last l, v => ∃ u, v = .iface 95 (.agg #[.bool last, u]) ∧ DR M (.vec 1 l.length (intsF l)) u
theorem obPr_iface {M : Imm} {o : Ob} {v : Value} (h : obPr M o v) : ∃ T z, v = .iface T z := by
  cases o with
  | reg n => exact ⟨_, _, h⟩
  | cnt n => exact ⟨_, _, h⟩
  | hp b l => obtain ⟨u, hu, _⟩ := h; exact ⟨_, _, hu⟩
def objP (o : Ob) : MP := ⟨fun M v => obPr M o v, fun M M' v hM h => by
  cases o with
  | reg n => exact h
  | cnt n => exact h
  | hp b l => obtain ⟨u, hu, hr⟩ := h; exact ⟨u, hu, hr.mono hM⟩, fun M v h => by obtain ⟨T, z, rfl⟩ := obPr_iface h; rfl⟩
def objV (o : Ob) : SV := .d (.pr (objP o))
theorem ob_reg {M : Imm} {ρ : Names} {n : Int} {x : Value} (h : VR M ρ (SV.i n) x) : VR M ρ (objV (.reg n)) (.iface 92 x) := pr_mk (by rw [h.val]; rfl)
theorem ob_cnt {M : Imm} {ρ : Names} {n : Int} {x : Value} (h : VR M ρ (SV.i n) x) : VR M ρ (objV (.cnt n)) (.iface 93 x) := pr_mk (by rw [h.val]; rfl)
theorem ob_hp {M : Imm} {ρ : Names} {b : Bool} {l : List Int} {n : Nat} {f : Nat → Nat → D} {x : Value} (h : VR M ρ (.agg [SV.b b, .d (.vec 1 n f)]) x) (hn : n = l.length) (hf : ∀ i c, i < l.length → c < 1 → f i c = intsF l i c) : VR M ρ (objV (.hp b l)) (.iface 95 x) := by
  obtain ⟨vs, rfl, hs, hr⟩ := agg_case h
  obtain ⟨u0, e0, r0⟩ := hr 0 _ rfl
  obtain ⟨u1, e1, r1⟩ := hr 1 _ rfl
  refine pr_mk ⟨u1, ?_, ?_⟩
  · have : vs = #[.bool b, u1] := by
      apply Array.ext'
      have h2 : vs.toList.length = 2 := by simpa using hs
      match hq : vs.toList, h2 with
      | [a, c], _ =>
        have a0 : vs[0]? = some a := by rw [← Array.getElem?_toList, hq]; rfl
        have a1 : vs[1]? = some c := by rw [← Array.getElem?_toList, hq]; rfl
        rw [e0] at a0; rw [e1] at a1
        rw [← Option.some.inj a0, ← Option.some.inj a1, r0.bool]
    rw [this]
  · subst hn
    cases r1 with | d _ _ h => exact DR.vec_congr h hf
theorem reg_case {M : Imm} {ρ : Names} {n : Int} {x : Value} (h : VR M ρ (objV (.reg n)) x) : ∃ z, x = .iface 92 z ∧ VR M ρ (SV.i n) z := ⟨_, pr_case h, .d _ _ (.val _ rfl)⟩
theorem cnt_case {M : Imm} {ρ : Names} {n : Int} {x : Value} (h : VR M ρ (objV (.cnt n)) x) : ∃ z, x = .iface 93 z ∧ VR M ρ (SV.i n) z := ⟨_, pr_case h, .d _ _ (.val _ rfl)⟩
theorem hp_case {M : Imm} {ρ : Names} {b : Bool} {l : List Int} {x : Value} (h : VR M ρ (objV (.hp b l)) x) : ∃ z, x = .iface 95 z ∧ VR M ρ (.agg [SV.b b, intsV l]) z := by
  obtain ⟨u, hu, hr⟩ := pr_case h
  refine ⟨_, hu, .aggOf _ _ rfl fun i s hs => ?_⟩
  match i, hs with
  | 0, hs => cases hs; exact ⟨_, rfl, .d _ _ (.val _ rfl)⟩
  | 1, hs => cases hs; exact ⟨_, rfl, .d _ _ hr⟩
  | n + 2, hs => simp at hs
theorem take_F (l : List Int) (k i c : Nat) (hi : i < (l.take k).length) (hc : c < 1) : intsF l i c = intsF (l.take k) i c := by
  unfold intsF
  rw [List.length_take] at hi
  rw [List.getD_eq_getElem?_getD, List.getD_eq_getElem?_getD, List.getElem?_take, if_pos (by omega)]
theorem drop_F (l : List Int) (i c : Nat) (hc : c < 1) : intsF l (1 + i) c = intsF (l.drop 1) i c := by
  unfold intsF
  rw [List.getD_eq_getElem?_getD, List.getD_eq_getElem?_getD, List.getElem?_drop]

theorem reg_next (n : Int) (a : Act) : Spec Tryd.prog G0 107 [SV.i n, actS a] [] (fun r ho => r = SV.tup [objV (onext (.reg n) a).1, SV.i (onext (.reg n) a).2] ∧ ho = []) := by
  refine start 16 0 Tryd.func107 rfl rfl rfl rfl ?_
  refine r1 ?_
  refine s1 3 0 1 rfl rfl rfl rfl rfl rfl trivial ?_
  refine s1 4 8 2 rfl rfl rfl rfl rfl rfl trivial ?_
  refine s1 5 16 3 rfl rfl rfl rfl rfl rfl trivial ?_
  refine e1 24 rfl ?_
  refine keep [0, 3] rfl ?_
  refine W_seq ?_
  refine r1 ?_
  refine s1 6 24 1 rfl rfl rfl rfl rfl rfl trivial ?_
  refine s1 7 32 2 rfl rfl rfl rfl rfl rfl (by first | trivial | omega) ?_
  refine e1 40 rfl ?_
  refine keep [0, 3, 7] rfl ?_
  refine q1 rfl (fun hc1 => ?_) (fun hc1 => ?_)
  · skip
    try simp only [cs, ne_eq] at hc1
    refine rd1 rfl ?_
    refine d1 8 40 1 rfl rfl rfl rfl rfl rfl trivial ?_
    refine d1 9 48 2 rfl rfl rfl rfl rfl rfl (by first | trivial | omega) ?_
    refine dIfc (objV (.reg a.v)) 10 56 3 rfl rfl rfl rfl rfl rfl Tryd.underlying92 rfl rfl (fun M ρ x h => ob_reg h) ?_
    refine d1 11 64 4 rfl rfl rfl rfl rfl rfl trivial ?_
    refine d1 12 72 5 rfl rfl rfl rfl rfl rfl (by first | trivial | omega) ?_
    refine d1 4 80 6 rfl rfl rfl rfl rfl rfl trivial ?_
    refine d1 5 88 7 rfl rfl rfl rfl rfl rfl trivial ?_
    refine de1 96 rfl (by kernel_rfl) ?_
    refine keep [4, 5] rfl ?_
    refine W_ret ?_
    refine tr ?_
    exact out2 4 5 (objV (onext (.reg n) a).1) (SV.i (onext (.reg n) a).2) (π := []) (hout := []) Tryd.results107 rfl rfl (by rw [onext_reg_put hc1]; rfl) (by rw [onext_reg_put hc1]; rfl) rfl rfl trivial ⟨rfl, rfl⟩
  try simp only [cs, ne_eq] at hc1
  refine W_skip ?_
  refine tn ?_
  refine r1 ?_
  refine s1 13 40 1 rfl rfl rfl rfl rfl rfl trivial ?_
  refine sIfc (objV (.reg n)) 14 48 2 rfl rfl rfl rfl rfl rfl Tryd.underlying92 rfl rfl (fun M ρ x h => ob_reg h) ?_
  refine s1 15 56 3 rfl rfl rfl rfl rfl rfl trivial ?_
  refine s1 4 64 4 rfl rfl rfl rfl rfl rfl trivial ?_
  refine s1 5 72 5 rfl rfl rfl rfl rfl rfl trivial ?_
  refine e1 80 rfl ?_
  refine keep [4, 5] rfl ?_
  refine W_ret ?_
  exact out2 4 5 (objV (onext (.reg n) a).1) (SV.i (onext (.reg n) a).2) (π := []) (hout := []) Tryd.results107 rfl rfl (by rw [onext_reg_get hc1]; rfl) (by rw [onext_reg_get hc1]; rfl) rfl rfl trivial ⟨rfl, rfl⟩

theorem cnt_next (n : Int) (a : Act) : Spec Tryd.prog G0 109 [SV.i n, actS a] [] (fun r ho => r = SV.tup [objV (onext (.cnt n) a).1, SV.i (onext (.cnt n) a).2] ∧ ho = []) := by
  refine start 12 0 Tryd.func109 rfl rfl rfl rfl ?_
  refine r1 ?_
  refine s1 3 0 1 rfl rfl rfl rfl rfl rfl trivial ?_
  refine s1 4 8 2 rfl rfl rfl rfl rfl rfl trivial ?_
  refine s1 5 16 3 rfl rfl rfl rfl rfl rfl trivial ?_
  refine e1 24 rfl ?_
  refine keep [0, 3] rfl ?_
  refine r1 ?_
  refine s1 6 24 1 rfl rfl rfl rfl rfl rfl trivial ?_
  refine s1 7 32 2 rfl rfl rfl rfl rfl rfl trivial ?_
  refine s1 8 40 3 rfl rfl rfl rfl rfl rfl (by first | trivial | omega) ?_
  refine s1 9 48 4 rfl rfl rfl rfl rfl rfl (by first | trivial | omega) ?_
  refine val 9 (SV.i (wrp (n + a.y))) rfl rfl ?_
  refine sIfc (objV (.cnt (wrp (n + a.y)))) 10 56 5 rfl rfl rfl rfl rfl rfl Tryd.underlying93 rfl rfl (fun M ρ x h => ob_cnt h) ?_
  refine s1 11 64 6 rfl rfl rfl rfl rfl rfl trivial ?_
  refine s1 4 72 7 rfl rfl rfl rfl rfl rfl trivial ?_
  refine s1 5 80 8 rfl rfl rfl rfl rfl rfl trivial ?_
  refine e1 88 rfl ?_
  refine keep [4, 5] rfl ?_
  refine W_ret ?_
  exact out2 4 5 (objV (onext (.cnt n) a).1) (SV.i (onext (.cnt n) a).2) (π := []) (hout := []) Tryd.results109 rfl rfl rfl rfl rfl rfl trivial ⟨rfl, rfl⟩

theorem clone_any (l : List Int) (hl : l.length ≤ 1048576) : Spec Tryd.prog G0 43 [intsV l] [] (fun r ho => r = .sl 0 0 l.length ∧ ho = [some (intsB l)]) := by
  refine start 8 0 Tryd.func43 rfl rfl rfl rfl ?_
  refine r1 ?_
  refine s1 2 0 1 rfl rfl rfl rfl rfl rfl trivial ?_
  refine e1 8 rfl ?_
  refine keep [0] rfl ?_
  refine W_seq ?_
  refine r1 ?_
  refine s1 3 8 1 rfl rfl rfl rfl rfl rfl trivial ?_
  refine sNilQ 4 16 2 rfl rfl rfl rfl rfl rfl rfl rfl (fun b hb => ?_)
  refine e1 24 rfl ?_
  refine keep [0, 4] rfl ?_
  refine q1 rfl (fun hc1 => ?_) (fun hc1 => ?_)
  · skip
    try simp only [cs, ne_eq] at hc1
    obtain rfl : l = [] := List.length_eq_zero_iff.1 (hb hc1)
    refine r1 ?_
    refine s1 2 24 1 rfl rfl rfl rfl rfl rfl trivial ?_
    refine e1 32 rfl ?_
    refine keep [2] rfl ?_
    refine ghostly 2 3 1 (intsF []) rfl ?_
    refine W_ret ?_
    refine tr ?_
    exact out1 2 (.sl 0 0 0) (π := [32]) (hout := [some (intsB [])]) Tryd.results43 rfl rfl rfl rfl ⟨rfl, trivial⟩ ⟨rfl, rfl⟩
  try simp only [cs, ne_eq] at hc1
  refine W_skip ?_
  refine tn ?_
  refine r1 ?_
  refine s1 5 24 1 rfl rfl rfl rfl rfl rfl trivial ?_
  refine s1 6 32 2 rfl rfl rfl rfl rfl rfl trivial ?_
  refine s1 7 40 3 rfl rfl rfl rfl rfl rfl ⟨trivial, (by show l.length * 8 ≤ 140737488355328; omega), (by simp only [maxLen]; omega)⟩ ?_
  refine s1 2 48 4 rfl rfl rfl rfl rfl rfl trivial ?_
  refine e1 56 rfl ?_
  refine keep [2] rfl ?_
  refine W_ret ?_
  exact out1 2 (.sl 0 0 l.length) (π := [40]) (hout := [some (intsB l)]) Tryd.results43 rfl rfl rfl rfl ⟨rfl, trivial⟩ ⟨rfl, rfl⟩

theorem hp_frozen {M M' : Imm} {ρ : Names} (hM : M.le M') {n : Nat} {b : Bool} {l : List Int} (hv : ∀ v, VR M ρ (.sl n 0 l.length) v → VR M' ρ (.d (.vec 1 l.length (intsF l))) v) {v : Value} (h : VR M ρ (.iface 95 (.agg [SV.b b, .sl n 0 l.length])) v) : VR M' ρ (objV (.hp b l)) v := by
  cases h with
  | iface _ _ x h =>
    obtain ⟨vs, rfl, hs, hr⟩ := agg_case h
    refine ob_hp (n := l.length) (f := intsF l) ?_ rfl (fun _ _ _ _ => rfl)
    refine .aggOf _ _ hs fun i s hi => ?_
    match i, hi with
    | 0, hi => cases hi; obtain ⟨u, e, r⟩ := hr 0 _ rfl; exact ⟨u, e, r.mono hM (Names.le_refl _)⟩
    | 1, hi => cases hi; obtain ⟨u, e, r⟩ := hr 1 _ rfl; exact ⟨u, e, hv u r⟩
    | n + 2, hi => simp at hi
theorem hp_next (b : Bool) (l : List Int) (hl : l.length ≤ 1048575) (a : Act) : Spec Tryd.prog G0 111 [.agg [SV.b b, intsV l], actS a] [] (fun r ho => r = SV.tup [objV (onext (.hp b l) a).1, SV.i (onext (.hp b l) a).2] ∧ ho = []) := by
  refine start 56 0 Tryd.func111 rfl rfl rfl rfl ?_
  refine r1 ?_
  refine s1 2 0 1 rfl rfl rfl rfl rfl rfl trivial ?_
  refine s1 3 8 2 rfl rfl rfl rfl rfl rfl trivial ?_
  refine s1 4 16 3 rfl rfl rfl rfl rfl rfl trivial ?_
  refine s1 5 24 4 rfl rfl rfl rfl rfl rfl trivial ?_
  refine e1 32 rfl ?_
  refine keep [2, 3] rfl ?_
  refine r1 ?_
  refine s1 7 32 1 rfl rfl rfl rfl rfl rfl trivial ?_
  refine s1 8 40 2 rfl rfl rfl rfl rfl rfl (by first | trivial | omega) ?_
  refine s1 9 48 3 rfl rfl rfl rfl rfl rfl (by first | trivial | omega) ?_
  refine s1 6 56 4 rfl rfl rfl rfl rfl rfl trivial ?_
  refine e1 64 rfl ?_
  refine keep [2, 3, 6] rfl ?_
  refine W_seq ?_
  refine W_block ?_
  refine r1 ?_
  refine s1 11 64 1 rfl rfl rfl rfl rfl rfl trivial ?_
  refine s1 12 72 2 rfl rfl rfl rfl rfl rfl (by first | trivial | omega) ?_
  refine s1 10 80 3 rfl rfl rfl rfl rfl rfl trivial ?_
  refine e1 88 rfl ?_
  refine keep [2, 3, 6, 10] rfl ?_
  refine q1 rfl (fun hc2 => ?_) (fun hc2 => ?_)
  · skip
    try simp only [cs, ne_eq] at hc2
    refine rd1 rfl ?_
    refine d1 13 88 1 rfl rfl rfl rfl rfl rfl trivial ?_
    refine d1 14 96 2 rfl rfl rfl rfl rfl rfl (by first | trivial | omega) ?_
    refine d1 15 104 3 rfl rfl rfl rfl rfl rfl trivial ?_
    refine d1 16 112 4 rfl rfl rfl rfl rfl rfl (by first | trivial | omega) ?_
    refine dc1 (clone_any l (by omega)) [] [120] 17 120 5 rfl rfl rfl rfl rfl rfl rfl rfl Tryd.func43 rfl rfl rfl rfl trivial rfl rfl ?_
    refine d1 18 128 6 rfl rfl rfl rfl rfl rfl trivial ?_
    refine d1 19 136 7 rfl rfl rfl rfl rfl rfl (by first | trivial | omega) ?_
    refine d1 20 144 8 rfl rfl rfl rfl rfl rfl trivial ?_
    refine d1 21 152 9 rfl rfl rfl rfl rfl rfl ⟨Nat.le_refl _, trivial, (by show (l.length + 1) * 8 ≤ 140737488355328; omega), (by simp only [maxLen]; omega)⟩ ?_
    refine d1 22 160 10 rfl rfl rfl rfl rfl rfl trivial ?_
    refine dIfc (.iface 95 (.agg [SV.b b, .sl 152 0 (l.length + 1)])) 23 168 11 rfl rfl rfl rfl rfl rfl Tryd.underlying95 rfl rfl (fun M ρ x h => .iface _ _ _ h) ?_
    refine d1 24 176 12 rfl rfl rfl rfl rfl rfl trivial ?_
    refine d1 25 184 13 rfl rfl rfl rfl rfl rfl (by first | trivial | omega) ?_
    refine d1 4 192 14 rfl rfl rfl rfl rfl rfl trivial ?_
    refine d1 5 200 15 rfl rfl rfl rfl rfl rfl trivial ?_
    refine de1 208 rfl (by kernel_rfl) ?_
    refine keep [4, 5] rfl ?_
    refine rowsc 152 (l ++ [a.v]).length (intsF (l ++ [a.v])) rfl (by simp) (fun i c hi hc => ints_cat l a.v i c hi hc) ?_
    refine cval 4 (.iface 95 (.agg [SV.b b, .sl 152 0 (l ++ [a.v]).length])) rfl (by rw [List.length_append]; rfl) ?_
    refine refreeze 4 152 (l ++ [a.v]).length (objV (.hp b (l ++ [a.v]))) rfl rfl (Nat.le_refl _) (fun M M' ρ hM hv v h => hp_frozen hM hv h) ?_
    refine W_ret ?_
    refine br ?_
    refine tr ?_
    exact out2 4 5 (objV (onext (.hp b l) a).1) (SV.i (onext (.hp b l) a).2) (π := []) (hout := []) Tryd.results111 rfl rfl (by rw [onext_put hc2]; rfl) (by rw [onext_put hc2]; rfl) rfl rfl trivial ⟨rfl, rfl⟩
  try simp only [cs, ne_eq] at hc2
  refine r1 ?_
  refine s1 27 88 1 rfl rfl rfl rfl rfl rfl trivial ?_
  refine s1 28 96 2 rfl rfl rfl rfl rfl rfl (by first | trivial | omega) ?_
  refine s1 26 104 3 rfl rfl rfl rfl rfl rfl trivial ?_
  refine e1 112 rfl ?_
  refine keep [2, 6, 26] rfl ?_
  refine q1 rfl (fun hc4 => ?_) (fun hc4 => ?_)
  · skip
    try simp only [cs, ne_eq] at hc4
    refine r1 ?_
    refine s1 29 112 1 rfl rfl rfl rfl rfl rfl (by first | trivial | omega) ?_
    refine sIfc (objV (.hp b l)) 30 120 2 rfl rfl rfl rfl rfl rfl Tryd.underlying95 rfl rfl (fun M ρ x h => ob_hp h rfl (fun _ _ _ _ => rfl)) ?_
    refine s1 4 128 3 rfl rfl rfl rfl rfl rfl trivial ?_
    refine s1 5 136 4 rfl rfl rfl rfl rfl rfl trivial ?_
    refine e1 144 rfl ?_
    refine keep [4, 5] rfl ?_
    refine W_ret ?_
    refine br ?_
    refine tr ?_
    exact out2 4 5 (objV (onext (.hp b l) a).1) (SV.i (onext (.hp b l) a).2) (π := []) (hout := []) Tryd.results111 rfl rfl (by rw [onext_none hc2 (by omega)]; rfl) (by rw [onext_none hc2 (by omega)]; rfl) rfl rfl trivial ⟨rfl, rfl⟩
  try simp only [cs, ne_eq] at hc4
  refine r1 ?_
  refine s1 32 112 1 rfl rfl rfl rfl rfl rfl trivial ?_
  refine s1 33 120 2 rfl rfl rfl rfl rfl rfl (by first | trivial | omega) ?_
  refine s1 31 128 3 rfl rfl rfl rfl rfl rfl trivial ?_
  refine e1 136 rfl ?_
  refine keep [2, 6, 31] rfl ?_
  refine q1 rfl (fun hc6 => ?_) (fun hc6 => ?_)
  · skip
    try simp only [cs, ne_eq] at hc6
    refine rd1 rfl ?_
    refine d1 34 136 1 rfl rfl rfl rfl rfl rfl trivial ?_
    refine d1 35 144 2 rfl rfl rfl rfl rfl rfl (by first | trivial | omega) ?_
    refine d1 36 152 3 rfl rfl rfl rfl rfl rfl trivial ?_
    refine dA 37 160 4 rfl rfl rfl rfl rfl rfl rfl rfl rfl (by unfold inRange; omega) ?_
    refine d1 38 168 5 rfl rfl rfl rfl rfl rfl (by omega) ?_
    refine d1 39 176 6 rfl rfl rfl rfl rfl rfl trivial ?_
    refine dIfc (objV (.hp true (l.take (l.length - 1)))) 40 184 7 rfl rfl rfl rfl rfl rfl Tryd.underlying95 rfl rfl (fun M ρ x h => ob_hp h (by rw [List.length_take]; omega) (fun i c hi hc => by first | exact take_F l _ i c hi hc | (rw [Nat.zero_add]; exact take_F l _ i c hi hc))) ?_
    refine d1 41 192 8 rfl rfl rfl rfl rfl rfl trivial ?_
    refine d1 42 200 9 rfl rfl rfl rfl rfl rfl (by first | trivial | omega) ?_
    refine d1 43 208 10 rfl rfl rfl rfl rfl rfl trivial ?_
    refine dA 44 216 11 rfl rfl rfl rfl rfl rfl rfl rfl rfl (by unfold inRange; omega) ?_
    refine d1 45 224 12 rfl rfl rfl rfl rfl rfl (by first | trivial | omega) ?_
    refine d1 46 232 13 rfl rfl rfl rfl rfl rfl (by first | trivial | omega) ?_
    refine d1 4 240 14 rfl rfl rfl rfl rfl rfl trivial ?_
    refine d1 5 248 15 rfl rfl rfl rfl rfl rfl trivial ?_
    refine de1 256 rfl (by kernel_rfl) ?_
    refine keep [4, 5] rfl ?_
    refine W_ret ?_
    refine br ?_
    refine tr ?_
    exact out2 4 5 (objV (onext (.hp b l) a).1) (SV.i (onext (.hp b l) a).2) (π := []) (hout := []) Tryd.results111 rfl rfl (by rw [onext_last hc2 (by omega) hc6]; rfl) (by rw [onext_last hc2 (by omega) hc6]; rw [show ((l.length : Int) - 1).toNat = l.length - 1 from by omega]; rfl) rfl rfl trivial ⟨rfl, rfl⟩
  try simp only [cs, ne_eq] at hc6
  refine W_skip ?_
  refine bn ?_
  refine tn ?_
  refine rd1 rfl ?_
  refine d1 47 136 1 rfl rfl rfl rfl rfl rfl trivial ?_
  refine d1 48 144 2 rfl rfl rfl rfl rfl rfl (by first | trivial | omega) ?_
  refine d1 49 152 3 rfl rfl rfl rfl rfl rfl (by omega) ?_
  refine d1 50 160 4 rfl rfl rfl rfl rfl rfl trivial ?_
  refine dIfc (objV (.hp false (l.drop 1))) 51 168 5 rfl rfl rfl rfl rfl rfl Tryd.underlying95 rfl rfl (fun M ρ x h => ob_hp h (by rw [List.length_drop]; omega) (fun i c hi hc => by first | exact drop_F l i c hc | (rw [Nat.add_comm]; exact drop_F l i c hc))) ?_
  refine d1 52 176 6 rfl rfl rfl rfl rfl rfl trivial ?_
  refine d1 53 184 7 rfl rfl rfl rfl rfl rfl (by first | trivial | omega) ?_
  refine d1 54 192 8 rfl rfl rfl rfl rfl rfl (by first | trivial | omega) ?_
  refine d1 55 200 9 rfl rfl rfl rfl rfl rfl (by first | trivial | omega) ?_
  refine d1 4 208 10 rfl rfl rfl rfl rfl rfl trivial ?_
  refine d1 5 216 11 rfl rfl rfl rfl rfl rfl trivial ?_
  refine de1 224 rfl (by kernel_rfl) ?_
  refine keep [4, 5] rfl ?_
  refine W_ret ?_
  exact out2 4 5 (objV (onext (.hp b l) a).1) (SV.i (onext (.hp b l) a).2) (π := []) (hout := []) Tryd.results111 rfl rfl (by rw [onext_first hc2 (by omega) hc6]; rfl) (by rw [onext_first hc2 (by omega) hc6]; rfl) rfl rfl trivial ⟨rfl, rfl⟩

end Go.Proofs.YtnnjobmiepnedaaDoor.Nice.Lin

/- Whether objects are the same; which are among those seen; whether an act may come now. -/
namespace Go.Proofs.YtnnjobmiepnedaaDoor.Nice.Lin
open Go
set_option linter.unusedVariables false
set_option linter.unusedSimpArgs false
set_option maxRecDepth 100000
set_option maxHeartbeats 4000000

def T : Nat → Nat
  | 0 => 1
  | f + 1 => 1 + 9 * T f
def Tp : Nat → Nat
  | 0 => 0
  | f + 1 => T f
theorem T_eq (f : Nat) : 1 + 9 * Tp f = T f := by cases f <;> rfl
theorem T_big : ∀ f, f ≤ 9 → T f ≤ 1000000000 := by decide
def unset (n m : Nat) : Nat := ((List.range n).filter fun k => !m.testBit k).length
def allTo (L : List Act) (m n : Nat) : Bool := (List.range n).all fun k => decide ((L.getD k default).e = -1) || m.testBit k
def rdyTo (L : List Act) (m i n : Nat) : Bool := (List.range n).all fun k => m.testBit k || (decide ((L.getD k default).e = -1) || !decide ((L.getD k default).e < (L.getD i default).b))
def fits (o : Ob) (a : Act) : Bool := decide (a.e = -1) || decide ((onext o a).2 = a.v)
def brn (G : Nat → Ob → Bool) (L : List Act) (m : Nat) (o : Ob) (i : Nat) : Bool := !m.testBit i && (rdyTo L m i L.length && (fits o (L.getD i default) && G (m ||| 2 ^ i) (onext o (L.getD i default)).1))
def Fs (L : List Act) : Nat → Nat → Ob → Bool
  | 0, m, o => allTo L m L.length
  | f + 1, m, o => allTo L m L.length || (List.range L.length).any (brn (Fs L f) L m o)
def FF (L : List Act) (m : Nat) (o : Ob) : Bool := Fs L (unset L.length m) m o
theorem or_bit (m i k : Nat) : (m ||| 2 ^ i).testBit k = (m.testBit k || decide (i = k)) := by rw [Nat.testBit_or, Nat.testBit_two_pow]
theorem filter_out (i : Nat) : ∀ (l : List Nat) (p : Nat → Bool), l.Nodup → i ∈ l → p i = true → (l.filter p).length = (l.filter fun k => p k && !decide (i = k)).length + 1
  | [], p, _, h, _ => by cases h
  | a :: l, p, hn, hm, hp => by
    obtain ⟨hn1, hn2⟩ := List.nodup_cons.1 hn
    by_cases e : i = a
    · subst e
      have : (l.filter fun k => p k && !decide (i = k)) = l.filter p := by
        apply List.filter_congr
        intro k hk
        have : i ≠ k := fun h => hn1 (h ▸ hk)
        simp [this]
      rw [List.filter_cons_of_pos hp, List.filter_cons_of_neg (by simp), this]; rfl
    · have ih := filter_out i l p hn2 (by rcases List.mem_cons.1 hm with h | h; exact absurd h e; exact h) hp
      by_cases hpa : p a = true
      · rw [List.filter_cons_of_pos hpa, List.filter_cons_of_pos (by simp [hpa, e])]
        simp only [List.length_cons]; omega
      · rw [List.filter_cons_of_neg hpa, List.filter_cons_of_neg (by simp [hpa])]
        exact ih
theorem unset_or {n m i : Nat} (hi : i < n) (hb : m.testBit i = false) : unset n m = unset n (m ||| 2 ^ i) + 1 := by
  unfold unset
  rw [filter_out i (List.range n) _ List.nodup_range (List.mem_range.2 hi) (by simp [hb])]
  congr 2
  apply List.filter_congr
  intro k _
  rw [or_bit]; cases m.testBit k <;> simp
theorem unset_zero {n m i : Nat} (h : unset n m = 0) (hi : i < n) : m.testBit i = true := by
  unfold unset at h
  have := List.length_eq_zero_iff.1 h
  rw [List.filter_eq_nil_iff] at this
  have := this i (List.mem_range.2 hi)
  simpa using this
theorem FF_eq (L : List Act) (m : Nat) (o : Ob) : FF L m o = (allTo L m L.length || (List.range L.length).any (brn (FF L) L m o)) := by
  unfold FF
  cases hu : unset L.length m with
  | zero =>
    have : (List.range L.length).any (brn (fun m o => Fs L (unset L.length m) m o) L m o) = false := by
      rw [List.any_eq_false]
      intro i hi
      unfold brn
      rw [unset_zero hu (List.mem_range.1 hi)]; simp
    show allTo L m L.length = _
    rw [this, Bool.or_false]
  | succ f =>
    show (allTo L m L.length || (List.range L.length).any (brn (Fs L f) L m o)) = _
    congr 1
    apply Bool.eq_iff_iff.2
    rw [List.any_eq_true, List.any_eq_true]
    have key : ∀ i, i ∈ List.range L.length → brn (Fs L f) L m o i = brn (FF L) L m o i := by
      intro i hi
      unfold brn
      cases hb : m.testBit i with
      | true => rfl
      | false =>
        have := unset_or (n := L.length) (List.mem_range.1 hi) hb
        unfold FF
        rw [show unset L.length (m ||| 2 ^ i) = f by omega]
    constructor
    · rintro ⟨i, hi, h⟩; exact ⟨i, hi, (key i hi).symm.trans h⟩
    · rintro ⟨i, hi, h⟩; exact ⟨i, hi, (key i hi).trans h⟩
theorem allTo_succ (L : List Act) (m n : Nat) : allTo L m (n + 1) = (allTo L m n && (decide ((L.getD n default).e = -1) || m.testBit n)) := by
  unfold allTo; rw [List.range_succ, List.all_append]; simp
theorem rdyTo_succ (L : List Act) (m i n : Nat) : rdyTo L m i (n + 1) = (rdyTo L m i n && (m.testBit n || (decide ((L.getD n default).e = -1) || !decide ((L.getD n default).e < (L.getD i default).b)))) := by
  unfold rdyTo; rw [List.range_succ, List.all_append]; simp
theorem rdyTo_false {L : List Act} {m i n : Nat} (hn : n < L.length) (h : (m.testBit n || (decide ((L.getD n default).e = -1) || !decide ((L.getD n default).e < (L.getD i default).b))) = false) : rdyTo L m i L.length = false := by
  unfold rdyTo
  rw [List.all_eq_false]
  exact ⟨n, List.mem_range.2 hn, by rw [h]; decide⟩
theorem FF_all {L : List Act} {m : Nat} {o : Ob} (h : allTo L m L.length = true) : FF L m o = true := by rw [FF_eq, h]; rfl
theorem FF_br {L : List Act} {m : Nat} {o : Ob} {i : Nat} (hi : i < L.length) (h : brn (FF L) L m o i = true) : FF L m o = true := by
  rw [FF_eq, Bool.or_eq_true]; right; rw [List.any_eq_true]; exact ⟨i, List.mem_range.2 hi, h⟩
theorem FF_no {L : List Act} {m : Nat} {o : Ob} (h : allTo L m L.length = false) (h2 : ∀ i, i < L.length → brn (FF L) L m o i = false) : FF L m o = false := by
  rw [FF_eq, h, Bool.false_or, List.any_eq_false]
  intro i hi; rw [h2 i (List.mem_range.1 hi)]; decide
theorem osame_eq {o x : Ob} (hk : okind o = okind x) (h : osame o x = true) : o = x := by
  cases o with
  | reg n => cases x with
    | reg m => simp [osame] at h; rw [h]
    | cnt m => cases hk
    | hp b l => cases b <;> cases hk
  | cnt n => cases x with
    | reg m => cases hk
    | cnt m => simp [osame] at h; rw [h]
    | hp b l => cases b <;> cases hk
  | hp b l => cases x with
    | reg m => cases b <;> cases hk
    | cnt m => cases b <;> cases hk
    | hp c k =>
      simp [osame] at h; subst h
      cases b <;> cases c <;> first | rfl | cases hk
theorem onext_kind (o : Ob) (a : Act) : okind (onext o a).1 = okind o := by
  cases o with
  | reg n => cases h : a.p with
    | true => rw [onext_reg_put h]; rfl
    | false => rw [onext_reg_get h]
  | cnt n => rfl
  | hp b l =>
    cases h : a.p with
    | true => rw [onext_put h]; cases b <;> rfl
    | false =>
      by_cases h2 : l.length = 0
      · rw [onext_none h h2]
      · cases b with
        | true => rw [onext_last h h2 rfl]; rfl
        | false => rw [onext_first h h2 rfl]; rfl
theorem onext_size (o : Ob) (a : Act) : osize (onext o a).1 ≤ osize o + 1 := by
  cases o with
  | reg n => cases h : a.p with
    | true => rw [onext_reg_put h]; exact Nat.zero_le _
    | false => rw [onext_reg_get h]; exact Nat.zero_le _
  | cnt n => exact Nat.zero_le _
  | hp b l =>
    cases h : a.p with
    | true => rw [onext_put h]; show (l ++ [a.v]).length ≤ l.length + 1; simp
    | false =>
      by_cases h2 : l.length = 0
      · rw [onext_none h h2]; exact Nat.le_succ _
      · cases b with
        | true => rw [onext_last h h2 rfl]; show (l.take _).length ≤ l.length + 1; rw [List.length_take]; omega
        | false => rw [onext_first h h2 rfl]; show (l.drop 1).length ≤ l.length + 1; rw [List.length_drop]; omega

def methPr (o : Ob) : MP := ⟨fun M v => ∃ w, v = .func (.method "barograph/lin.same") #[w] #[] ∧ obPr M o w, fun M M' v hM h => by obtain ⟨w, e, hw⟩ := h; exact ⟨w, e, (objP o).mono M M' w hM hw⟩, fun M v h => by obtain ⟨w, rfl, _⟩ := h; rfl⟩
def methV (o : Ob) : SV := .d (.pr (methPr o))
theorem meth_of {M : Imm} {ρ : Names} {o : Ob} {x : Value} (h : VR M ρ (objV o) x) : VR M ρ (methV o) (.func (.method "barograph/lin.same") #[x] #[]) := pr_mk ⟨x, rfl, pr_case h⟩
theorem obj_iface {M : Imm} {ρ : Names} {o : Ob} {x : Value} (h : VR M ρ (objV o) x) : ∃ T z, x = .iface T z := obPr_iface (pr_case h)

theorem ext_getD {x y : List Int} (h : x.length = y.length) (h2 : ∀ j, j < x.length → x.getD j 0 = y.getD j 0) : x = y := by
  apply List.ext_getElem h
  intro j h3 h4
  have := h2 j h3
  rw [getG h3, getG h4] at this; exact this
theorem equalI_any (x y : List Int) (hx : x.length ≤ 9223372036854775807) : Spec Tryd.prog G0 113 [intsV x, intsV y] [] (fun r ho => r = SV.b (decide (x = y)) ∧ ho = []) := by
  have hxl := hx
  refine start 26 0 Tryd.func113 rfl rfl rfl rfl ?_
  refine r1 ?_
  refine s1 4 0 1 rfl rfl rfl rfl rfl rfl trivial ?_
  refine e1 8 rfl ?_
  refine keep [0, 1] rfl ?_
  refine W_seq ?_
  refine r1 ?_
  refine s1 6 8 1 rfl rfl rfl rfl rfl rfl trivial ?_
  refine s1 7 16 2 rfl rfl rfl rfl rfl rfl (by first | trivial | omega) ?_
  refine s1 8 24 3 rfl rfl rfl rfl rfl rfl trivial ?_
  refine s1 9 32 4 rfl rfl rfl rfl rfl rfl (by first | trivial | omega) ?_
  refine s1 10 40 5 rfl rfl rfl rfl rfl rfl (by first | trivial | omega) ?_
  refine e1 48 rfl ?_
  refine keep [0, 1, 10] rfl ?_
  refine q1 rfl (fun hc1 => ?_) (fun hc1 => ?_)
  · skip
    try simp only [cs, ne_eq] at hc1
    refine r1 ?_
    refine s1 4 48 1 rfl rfl rfl rfl rfl rfl trivial ?_
    refine e1 56 rfl ?_
    refine keep [4] rfl ?_
    refine W_ret ?_
    refine tr ?_
    exact out1 4 (SV.b (decide (x = y))) (π := []) (hout := []) Tryd.results113 rfl (by show SV.b _ = SV.b _; rw [decide_eq_false (by rintro rfl; exact hc1 rfl)]) rfl rfl trivial ⟨rfl, rfl⟩
  try simp only [cs, ne_eq] at hc1
  refine W_skip ?_
  refine tn ?_
  refine W_seq ?_
  refine r1 ?_
  refine s1 11 48 1 rfl rfl rfl rfl rfl rfl trivial ?_
  refine s1 12 56 2 rfl rfl rfl rfl rfl rfl (by first | trivial | omega) ?_
  refine s1 13 64 3 rfl rfl rfl rfl rfl rfl trivial ?_
  refine e1 72 rfl ?_
  refine keep [0, 1, 12, 13] rfl ?_
  refine W_block ?_
  refine loop (α := Nat) 0 (fun n => [(0, intsV x), (1, intsV y), (12, SV.i x.length), (13, SV.i (n))]) (fun n => []) (fun n => (n) ≤ x.length ∧ ∀ j, j < (n) → x.getD j 0 = y.getD j 0) (fun n => x.length - (n)) (((0) : Nat)) [] (fun _ => rfl) (show (0) ≤ x.length ∧ ∀ j, j < (0) → x.getD j 0 = y.getD j 0 from ⟨Nat.zero_le _, fun j hj => by omega⟩) rfl ⟨rfl, rfl, rfl, rfl, trivial⟩ trivial (fun n hx => ?_)
  show W _ _ _ ⟨tOf [(0, intsV x), (1, intsV y), (12, SV.i x.length), (13, SV.i n)], hOf [], 0⟩
  have hx : n ≤ x.length ∧ ∀ j, j < n → x.getD j 0 = y.getD j 0 := hx
  obtain ⟨hn, hno⟩ := hx
  refine r1 ?_
  refine s1 14 0 1 rfl rfl rfl rfl rfl rfl (by first | trivial | omega) ?_
  refine e1 8 rfl ?_
  refine keep [0, 1, 12, 13, 14] rfl ?_
  refine W_seq ?_
  refine q1 rfl (fun hc4 => ?_) (fun hc4 => ?_)
  · skip
    try simp only [cs, ne_eq] at hc4
    refine W_skip ?_
    refine tn ?_
    refine W_seq ?_
    refine W_block ?_
    refine r1 ?_
    refine s1 15 8 1 rfl rfl rfl rfl rfl rfl trivial ?_
    refine s1 5 16 2 rfl rfl rfl rfl rfl rfl trivial ?_
    refine e1 24 rfl ?_
    refine keep [0, 1, 5, 12, 13] rfl ?_
    refine rd1 rfl ?_
    refine d1 16 24 1 rfl rfl rfl rfl rfl rfl trivial ?_
    refine d1 17 32 2 rfl rfl rfl rfl rfl rfl trivial ?_
    refine d1 18 40 3 rfl rfl rfl rfl rfl rfl (by first | trivial | omega) ?_
    refine d1 19 48 4 rfl rfl rfl rfl rfl rfl (by first | trivial | omega) ?_
    refine d1 20 56 5 rfl rfl rfl rfl rfl rfl trivial ?_
    refine d1 21 64 6 rfl rfl rfl rfl rfl rfl trivial ?_
    refine d1 22 72 7 rfl rfl rfl rfl rfl rfl (by first | trivial | omega) ?_
    refine d1 23 80 8 rfl rfl rfl rfl rfl rfl (by first | trivial | omega) ?_
    refine d1 24 88 9 rfl rfl rfl rfl rfl rfl (by first | trivial | omega) ?_
    refine de1 96 rfl (by kernel_rfl) ?_
    refine keep [0, 1, 12, 13, 24] rfl ?_
    refine q1 rfl (fun hc6 => ?_) (fun hc6 => ?_)
    · skip
      try simp only [cs, ne_eq] at hc6
      refine r1 ?_
      refine s1 4 96 1 rfl rfl rfl rfl rfl rfl trivial ?_
      refine e1 104 rfl ?_
      refine keep [4] rfl ?_
      refine W_ret ?_
      refine br ?_
      refine tr ?_
      refine tr ?_
      refine br ?_
      refine tr ?_
      exact out1 4 (SV.b (decide (x = y))) (π := []) (hout := []) Tryd.results113 rfl (by show SV.b _ = SV.b _; rw [decide_eq_false (by rintro rfl; exact hc6 rfl)]) rfl rfl trivial ⟨rfl, rfl⟩
    try simp only [cs, ne_eq] at hc6
    refine W_skip ?_
    refine bn ?_
    refine tn ?_
    refine r0 ?_
    refine sA 25 96 1 rfl rfl rfl rfl rfl rfl rfl rfl rfl (by unfold inRange; omega) ?_
    refine s1 13 104 2 rfl rfl rfl rfl rfl rfl trivial ?_
    refine e1 112 rfl ?_
    refine tn ?_
    exact again ((n + 1 : Nat)) [] (show (n + 1) ≤ x.length ∧ ∀ j, j < (n + 1) → x.getD j 0 = y.getD j 0 from ⟨by omega, fun j hj => by by_cases e : j = n; (subst e; simp only [Int.toNat_natCast] at hc6; exact hc6); exact hno j (by omega)⟩) (show x.length - (n + 1) < x.length - n from (by omega)) rfl ⟨rfl, rfl, rfl, rfl, trivial⟩ trivial
  try simp only [cs, ne_eq] at hc4
  refine W_exit ?_
  refine tx ?_
  refine tx ?_
  refine bx ?_
  refine tn ?_
  refine r1 ?_
  refine s1 4 8 1 rfl rfl rfl rfl rfl rfl trivial ?_
  refine e1 16 rfl ?_
  refine keep [4] rfl ?_
  refine W_ret ?_
  exact out1 4 (SV.b (decide (x = y))) (π := []) (hout := []) Tryd.results113 rfl (by show SV.b _ = SV.b _; rw [decide_eq_true (ext_getD (by omega) (fun j hj => hno j (by omega)))]) rfl rfl trivial ⟨rfl, rfl⟩

theorem reg_same (n m : Int) : Spec Tryd.prog G0 108 [SV.i n, objV (.reg m)] [] (fun r ho => r = SV.b (osame (.reg n) (.reg m)) ∧ ho = []) := by
  refine start 9 0 Tryd.func108 rfl rfl rfl rfl ?_
  refine r1 ?_
  refine s1 4 0 1 rfl rfl rfl rfl rfl rfl trivial ?_
  refine e1 8 rfl ?_
  refine keep [0, 1] rfl ?_
  refine r1 ?_
  refine s1 5 8 1 rfl rfl rfl rfl rfl rfl trivial ?_
  refine sAsrt (SV.i m) 6 16 2 rfl rfl rfl rfl rfl rfl Tryd.underlying92 rfl rfl (fun M ρ x h => reg_case h) ?_
  refine s1 7 24 3 rfl rfl rfl rfl rfl rfl trivial ?_
  refine s1 8 32 4 rfl rfl rfl rfl rfl rfl (by first | trivial | omega) ?_
  refine s1 4 40 5 rfl rfl rfl rfl rfl rfl trivial ?_
  refine e1 48 rfl ?_
  refine keep [4] rfl ?_
  refine W_ret ?_
  exact out1 4 (SV.b (osame (.reg n) (.reg m))) (π := []) (hout := []) Tryd.results108 rfl rfl rfl rfl trivial ⟨rfl, rfl⟩

theorem cnt_same (n m : Int) : Spec Tryd.prog G0 110 [SV.i n, objV (.cnt m)] [] (fun r ho => r = SV.b (osame (.cnt n) (.cnt m)) ∧ ho = []) := by
  refine start 9 0 Tryd.func110 rfl rfl rfl rfl ?_
  refine r1 ?_
  refine s1 4 0 1 rfl rfl rfl rfl rfl rfl trivial ?_
  refine e1 8 rfl ?_
  refine keep [0, 1] rfl ?_
  refine r1 ?_
  refine s1 5 8 1 rfl rfl rfl rfl rfl rfl trivial ?_
  refine sAsrt (SV.i m) 6 16 2 rfl rfl rfl rfl rfl rfl Tryd.underlying93 rfl rfl (fun M ρ x h => cnt_case h) ?_
  refine s1 7 24 3 rfl rfl rfl rfl rfl rfl trivial ?_
  refine s1 8 32 4 rfl rfl rfl rfl rfl rfl (by first | trivial | omega) ?_
  refine s1 4 40 5 rfl rfl rfl rfl rfl rfl trivial ?_
  refine e1 48 rfl ?_
  refine keep [4] rfl ?_
  refine W_ret ?_
  exact out1 4 (SV.b (osame (.cnt n) (.cnt m))) (π := []) (hout := []) Tryd.results110 rfl rfl rfl rfl trivial ⟨rfl, rfl⟩

theorem hp_same (b c : Bool) (l k : List Int) (hk : k.length ≤ 9223372036854775807) : Spec Tryd.prog G0 112 [.agg [SV.b b, intsV l], objV (.hp c k)] [] (fun r ho => r = SV.b (osame (.hp b l) (.hp c k)) ∧ ho = []) := by
  refine start 11 0 Tryd.func112 rfl rfl rfl rfl ?_
  refine r1 ?_
  refine s1 2 0 1 rfl rfl rfl rfl rfl rfl trivial ?_
  refine s1 4 8 2 rfl rfl rfl rfl rfl rfl trivial ?_
  refine e1 16 rfl ?_
  refine keep [1, 2] rfl ?_
  refine rd1 rfl ?_
  refine d1 5 16 1 rfl rfl rfl rfl rfl rfl trivial ?_
  refine dAsrt (.agg [SV.b c, intsV k]) 6 24 2 rfl rfl rfl rfl rfl rfl Tryd.underlying95 rfl rfl (fun M ρ x h => hp_case h) ?_
  refine d1 7 32 3 rfl rfl rfl rfl rfl rfl trivial ?_
  refine d1 8 40 4 rfl rfl rfl rfl rfl rfl trivial ?_
  refine d1 9 48 5 rfl rfl rfl rfl rfl rfl (by first | trivial | omega) ?_
  refine dc1 (equalI_any k l hk) [] [] 10 56 6 rfl rfl rfl rfl rfl rfl rfl rfl Tryd.func113 rfl rfl rfl rfl trivial rfl rfl ?_
  refine d1 4 64 7 rfl rfl rfl rfl rfl rfl trivial ?_
  refine de1 72 rfl (by kernel_rfl) ?_
  refine keep [4] rfl ?_
  refine W_ret ?_
  exact out1 4 (SV.b (osame (.hp b l) (.hp c k))) (π := []) (hout := []) Tryd.results112 rfl rfl rfl rfl trivial ⟨rfl, rfl⟩

theorem out_one {C : Ctx} {o : Oper} {nm : Nat} {v : Operand → SV} {r : SV} (hr : ∀ π, ren π r = r) (h : OpOK C o nm v (bsOf [] [] []) (fun u wr => ∃ r' hout π2, (r' = r ∧ hout = []) ∧ π2 = [] ++ newNames nm (hout.length - ([] : List Blk).length) ∧ u = ren π2 r' ∧ wr = wrOf π2 π2 hout)) : OpOK C o nm v [] (fun x z => x = r ∧ z = []) :=
  fun M F ρ a h0 w h1 h2 h3 h4 h5 K Q hK => h M F ρ a h0 w h1 h2 h3 h4 h5 K Q fun M' ρ' u wr u' w' g1 g2 g3 g4 => hK M' ρ' u wr u' w' g1 g2 g3 (by
    obtain ⟨r', ho', π2, ⟨rfl, rfl⟩, rfl, rfl, rfl⟩ := g4
    exact ⟨hr _, rfl⟩)
theorem same_call {sz m : Nat} {o : Oper} {nm : Nat} {v : Operand → SV} {y z : Operand} {tys : Array TypeId} {ob x : Ob} (ho : o.op = .call { callee := .value y, args := #[z], argTypes := tys }) (hy : v y = methV ob) (hz : v z = objV x) (hk : okind ob = okind x) (hs : osize x ≤ 9223372036854775807) : OpOK ⟨Tryd.prog, sz, m, G0⟩ o nm v [] (fun r wr => r = SV.b (osame ob x) ∧ wr = []) := by
  have my : y ∈ o.op.operands := by rw [ho]; simp [Op.operands, Call.operands]
  have mz : z ∈ o.op.operands := by rw [ho]; simp [Op.operands, Call.operands]
  have fin : ∀ (M : Imm) (ρ : Names) (q : SV) (qv zv : Value), VR M ρ (ren [] q) qv → VR M ρ (objV x) zv → ∀ (i : Nat) (s : SV), ([q, objV x] : List SV)[i]? = some s → ∃ u, (#[qv, zv] : Array Value)[i]? = some u ∧ VR M ρ (ren [] s) u := by
    intro M ρ q qv zv h1 h2 i s hs
    match i, hs with
    | 0, hs => cases hs; exact ⟨_, rfl, h1⟩
    | 1, hs => cases hs; exact ⟨_, rfl, h2⟩
    | n + 2, hs => simp at hs
  have cat : ∀ (a : Go.Act) (qv : Value), (#[qv] ++ (#[z] : Array Operand).map a.eval : Array Value) = #[qv, a.eval z] := by intro a qv; simp
  cases ob with
  | reg n => cases x with
    | reg p =>
      refine out_one (fun π => rfl) (enter_ok (C := ⟨Tryd.prog, sz, m, G0⟩) (reg_same n p) [] (fun M ρ a w hv => ?_) rfl)
      have e1 := hv y my; rw [hy] at e1
      have e2 := hv z mz; rw [hz] at e2
      obtain ⟨wv, hf, rfl⟩ := pr_case e1
      exact ⟨_, (run_methVal ho Tryd.func108 rfl hf w (by kernel_rfl)).trans (by rw [cat]), rfl, fin M ρ (SV.i n) _ _ (.d _ _ (.val _ rfl)) e2⟩
    | cnt p => cases hk
    | hp b l => cases b <;> cases hk
  | cnt n => cases x with
    | reg p => cases hk
    | cnt p =>
      refine out_one (fun π => rfl) (enter_ok (C := ⟨Tryd.prog, sz, m, G0⟩) (cnt_same n p) [] (fun M ρ a w hv => ?_) rfl)
      have e1 := hv y my; rw [hy] at e1
      have e2 := hv z mz; rw [hz] at e2
      obtain ⟨wv, hf, rfl⟩ := pr_case e1
      exact ⟨_, (run_methVal ho Tryd.func110 rfl hf w (by kernel_rfl)).trans (by rw [cat]), rfl, fin M ρ (SV.i n) _ _ (.d _ _ (.val _ rfl)) e2⟩
    | hp b l => cases b <;> cases hk
  | hp b l => cases x with
    | reg p => cases b <;> cases hk
    | cnt p => cases b <;> cases hk
    | hp c k =>
      refine out_one (fun π => rfl) (enter_ok (C := ⟨Tryd.prog, sz, m, G0⟩) (hp_same b c l k hs) [] (fun M ρ a w hv => ?_) rfl)
      have e1 := hv y my; rw [hy] at e1
      have e2 := hv z mz; rw [hz] at e2
      obtain ⟨wv, hf, hw⟩ := pr_case e1
      obtain ⟨q, rfl, hq⟩ := hp_case (pr_mk (ρ := ρ) (p := objP (.hp b l)) hw)
      exact ⟨_, (run_methVal ho Tryd.func112 rfl hf w (by kernel_rfl)).trans (by rw [cat]), rfl, fin M ρ (.agg [SV.b b, intsV l]) _ _ hq e2⟩
theorem next_call {sz m : Nat} {o : Oper} {nm : Nat} {v : Operand → SV} {y z : Operand} {tys : Array TypeId} {ob : Ob} {ac : Act} (ho : o.op = .call { callee := .invoke y "barograph/lin.next", args := #[z], argTypes := tys }) (hy : v y = objV ob) (hz : v z = actS ac) (hs : osize ob ≤ 1048575) : OpOK ⟨Tryd.prog, sz, m, G0⟩ o nm v [] (fun r wr => r = SV.tup [objV (onext ob ac).1, SV.i (onext ob ac).2] ∧ wr = []) := by
  have my : y ∈ o.op.operands := by rw [ho]; simp [Op.operands, Call.operands]
  have mz : z ∈ o.op.operands := by rw [ho]; simp [Op.operands, Call.operands]
  have fin : ∀ (M : Imm) (ρ : Names) (q : SV) (qv zv : Value), VR M ρ (ren [] q) qv → VR M ρ (actS ac) zv → ∀ (i : Nat) (s : SV), ([q, actS ac] : List SV)[i]? = some s → ∃ u, (#[qv, zv] : Array Value)[i]? = some u ∧ VR M ρ (ren [] s) u := by
    intro M ρ q qv zv h1 h2 i s hs
    match i, hs with
    | 0, hs => cases hs; exact ⟨_, rfl, h1⟩
    | 1, hs => cases hs; exact ⟨_, rfl, h2⟩
    | n + 2, hs => simp at hs
  have cat : ∀ (a : Go.Act) (qv : Value), (#[qv] ++ (#[z] : Array Operand).map a.eval : Array Value) = #[qv, a.eval z] := by intro a qv; simp
  cases ob with
  | reg n =>
    refine out_one (fun π => rfl) (enter_ok (C := ⟨Tryd.prog, sz, m, G0⟩) (reg_next n ac) [] (fun M ρ a w hv => ?_) rfl)
    have e1 := hv y my; rw [hy] at e1
    have e2 := hv z mz; rw [hz] at e2
    have hf := pr_case e1
    exact ⟨_, (run_invoke ho Tryd.func107 rfl hf w (by kernel_rfl)).trans (by rw [cat]), rfl, fin M ρ (SV.i n) _ _ (.d _ _ (.val _ rfl)) e2⟩
  | cnt n =>
    refine out_one (fun π => rfl) (enter_ok (C := ⟨Tryd.prog, sz, m, G0⟩) (cnt_next n ac) [] (fun M ρ a w hv => ?_) rfl)
    have e1 := hv y my; rw [hy] at e1
    have e2 := hv z mz; rw [hz] at e2
    have hf := pr_case e1
    exact ⟨_, (run_invoke ho Tryd.func109 rfl hf w (by kernel_rfl)).trans (by rw [cat]), rfl, fin M ρ (SV.i n) _ _ (.d _ _ (.val _ rfl)) e2⟩
  | hp b l =>
    refine out_one (fun π => rfl) (enter_ok (C := ⟨Tryd.prog, sz, m, G0⟩) (hp_next b l hs ac) [] (fun M ρ a w hv => ?_) rfl)
    have e1 := hv y my; rw [hy] at e1
    have e2 := hv z mz; rw [hz] at e2
    obtain ⟨q, hf, hq⟩ := hp_case e1
    exact ⟨_, (run_invoke ho Tryd.func111 rfl hf w (by kernel_rfl)).trans (by rw [cat]), rfl, fin M ρ (.agg [SV.b b, intsV l]) _ _ hq e2⟩
end Go.Proofs.YtnnjobmiepnedaaDoor.Nice.Lin

/- Which objects are among those seen; whether an act may come now. -/
namespace Go.Proofs.YtnnjobmiepnedaaDoor.Nice.Lin
open Go
set_option linter.unusedVariables false
set_option linter.unusedSimpArgs false
set_option maxRecDepth 100000
set_option maxHeartbeats 4000000

def objF (L : List Ob) : Nat → Nat → D := fun i _ => .pr (objP (L.getD i default))
def objsB (L : List Ob) : Blk := .rows 91 1 L.length (objF L)
def seekB (L : List Act) : Blk := .cells 99 2 [actsV L, .map 1]
abbrev SVu (m : Nat) : SV := .d (.val (.int .u64 m))
def idxO (L : List Ob) (p : Ob → Bool) : Int := match L.findIdx? p with | some i => i | none => -1
theorem idxO_found {l : List Ob} {p : Ob → Bool} {k : Nat} (h : k < l.length) (hp : p (l.getD k default) = true) (hn : ∀ j, j < k → p (l.getD j default) = false) : idxO l p = k := by
  unfold idxO
  have : l.findIdx? p = some k := by
    rw [List.findIdx?_eq_some_iff_getElem]
    refine ⟨h, by rw [← getG h]; exact hp, fun j hj => by have := hn j hj; rw [getG (by omega)] at this; simp [this]⟩
  rw [this]
theorem idxO_none {l : List Ob} {p : Ob → Bool} (hn : ∀ j, j < l.length → p (l.getD j default) = false) : idxO l p = -1 := by
  unfold idxO
  have : l.findIdx? p = none := by
    rw [List.findIdx?_eq_none_iff]
    intro x hx
    obtain ⟨j, hj, rfl⟩ := List.mem_iff_getElem.1 hx
    rw [← getG hj]; exact hn j hj
  rw [this]
theorem idxO_any {l : List Ob} {p : Ob → Bool} : decide (idxO l p ≥ 0) = l.any p := by
  unfold idxO
  cases h : l.findIdx? p with
  | none =>
    rw [List.findIdx?_eq_none_iff] at h
    have : l.any p = false := by rw [List.any_eq_false]; intro x hx; simp [h x hx]
    rw [this]; rfl
  | some i =>
    rw [List.findIdx?_eq_some_iff_getElem] at h
    obtain ⟨hi, hp, _⟩ := h
    have : l.any p = true := by rw [List.any_eq_true]; exact ⟨_, List.getElem_mem hi, hp⟩
    rw [this]; simp
theorem obj_cat (l : List Ob) (o : Ob) (i c : Nat) (hi : i < l.length + 1) (hc : c < 1) : catR (objF l) l.length (litR 1 [.pr (objP o)]) i c = objF (l ++ [o]) i c := by
  obtain rfl : c = 0 := by omega
  unfold catR objF litR
  by_cases h : i < l.length
  · rw [if_pos h]; simp [List.getD, List.getElem?_append_left h]
  · obtain rfl : i = l.length := by omega
    rw [if_neg (Nat.lt_irrefl _), Nat.sub_self]
    simp [List.getD]
/-- A bit of a mask, as the program asks it. -/
theorem bitv : ∀ m : Nat, m < 512 → ∀ k : Nat, k < 9 → bits .and .u64 ((m : Int).fdiv (2 ^ (min ((k : Int)).toNat 64))) 1 = if m.testBit k = true then 1 else 0 := by decide +kernel
theorem orv : ∀ m : Nat, m < 512 → ∀ k : Nat, k < 9 → bits .or .u64 (m : Int) (IntKind.u64.wrap (1 * 2 ^ (min ((k : Int)).toNat 64))) = ((m ||| 2 ^ k : Nat) : Int) := by decide +kernel
theorem or_lt {m k n : Nat} (hm : m < 2 ^ n) (hk : k < n) : m ||| 2 ^ k < 2 ^ n := Nat.or_lt_two_pow hm (Nat.pow_lt_pow_right (by omega) hk)
theorem or_gt {m k : Nat} (h : m.testBit k = false) : m < m ||| 2 ^ k := by
  rcases Nat.lt_or_ge m (m ||| 2 ^ k) with h2 | h2
  · exact h2
  · have h3 : m ≤ m ||| 2 ^ k := Nat.left_le_or
    have h4 : m ||| 2 ^ k = m := by omega
    have := or_bit m k k
    rw [h4, h] at this; simp at this

theorem indexO_any (o : Ob) (L : List Ob) (hL : L.length ≤ 9223372036854775807) (hk : ∀ j, j < L.length → okind o = okind (L.getD j default) ∧ osize (L.getD j default) ≤ 9223372036854775807) : Spec Tryd.prog G0 78 [.sl 0 0 L.length, methV o] [objsB L] (fun r ho => r = SV.i (idxO L (osame o)) ∧ ho = [some (objsB L)]) := by
  refine start 19 1 Tryd.func78 rfl rfl rfl rfl ?_
  refine r1 ?_
  refine s1 4 1 1 rfl rfl rfl rfl rfl rfl trivial ?_
  refine e1 9 rfl ?_
  refine keep [0, 1] rfl ?_
  refine W_seq ?_
  refine r1 ?_
  refine s1 6 9 1 rfl rfl rfl rfl rfl rfl trivial ?_
  refine s1 7 17 2 rfl rfl rfl rfl rfl rfl (by first | trivial | omega) ?_
  refine s1 8 25 3 rfl rfl rfl rfl rfl rfl trivial ?_
  refine e1 33 rfl ?_
  refine keep [0, 1, 7, 8] rfl ?_
  refine W_block ?_
  refine loop (α := Nat) 1 (fun n => [(0, .sl 0 0 L.length), (1, methV o), (7, SV.i L.length), (8, SV.i n)]) (fun n => [some (objsB L)]) (fun n => n ≤ L.length ∧ ∀ j, j < n → osame o (L.getD j default) = false) (fun n => L.length - n) (0) [0] (fun _ => rfl) ⟨Nat.zero_le _, fun j hj => by omega⟩ rfl ⟨rfl, rfl, rfl, rfl, trivial⟩ ⟨rfl, trivial⟩ (fun n hx => ?_)
  obtain ⟨hn, hno⟩ := hx
  refine r1 ?_
  refine s1 9 1 1 rfl rfl rfl rfl rfl rfl (by first | trivial | omega) ?_
  refine e1 9 rfl ?_
  refine keep [0, 1, 7, 8, 9] rfl ?_
  refine W_seq ?_
  refine q1 rfl (fun hc2 => ?_) (fun hc2 => ?_)
  · skip
    try simp only [cs, ne_eq] at hc2
    refine W_skip ?_
    refine tn ?_
    refine W_seq ?_
    refine W_block ?_
    refine r1 ?_
    refine s1 10 9 1 rfl rfl rfl rfl rfl rfl trivial ?_
    refine s1 5 17 2 rfl rfl rfl rfl rfl rfl trivial ?_
    refine e1 25 rfl ?_
    refine keep [0, 1, 5, 7, 8] rfl ?_
    refine r1 ?_
    refine s1 11 25 1 rfl rfl rfl rfl rfl rfl trivial ?_
    refine s1 12 33 2 rfl rfl rfl rfl rfl rfl trivial ?_
    refine s1 13 41 3 rfl rfl rfl rfl rfl rfl trivial ?_
    refine s1 14 49 4 rfl rfl rfl rfl rfl rfl (by first | trivial | omega) ?_
    refine val 14 (.ptr 0 n 0) rfl (by rw [Nat.zero_add]; rfl) ?_
    refine s1 15 57 5 rfl rfl rfl rfl rfl rfl (by first | trivial | omega) ?_
    refine sOk 16 65 6 (same_call (ob := o) (x := L.getD n default) rfl rfl rfl (hk n (by omega)).1 (hk n (by omega)).2) rfl rfl rfl rfl rfl trivial rfl rfl rfl ?_
    refine e1 73 rfl ?_
    refine keep [0, 1, 5, 7, 8, 16] rfl ?_
    refine q1 rfl (fun hc4 => ?_) (fun hc4 => ?_)
    · skip
      try simp only [cs, ne_eq] at hc4
      refine r1 ?_
      refine s1 17 73 1 rfl rfl rfl rfl rfl rfl trivial ?_
      refine s1 4 81 2 rfl rfl rfl rfl rfl rfl trivial ?_
      refine e1 89 rfl ?_
      refine keep [4] rfl ?_
      refine W_ret ?_
      refine br ?_
      refine tr ?_
      refine tr ?_
      refine br ?_
      refine tr ?_
      exact out1 4 (SV.i (idxO L (osame o))) (π := [0]) (hout := [some (objsB L)]) Tryd.results78 rfl (by rw [idxO_found (by omega) hc4 hno]; rfl) rfl rfl ⟨rfl, trivial⟩ ⟨rfl, rfl⟩
    try simp only [cs, ne_eq] at hc4
    refine W_skip ?_
    refine bn ?_
    refine tn ?_
    refine r0 ?_
    refine sA 18 73 1 rfl rfl rfl rfl rfl rfl rfl rfl rfl (by unfold inRange; omega) ?_
    refine s1 8 81 2 rfl rfl rfl rfl rfl rfl trivial ?_
    refine e1 89 rfl ?_
    refine tn ?_
    exact again (n + 1) [0] ⟨by omega, fun j hj => by by_cases e : j = n; (subst e; exact hc4); exact hno j (by omega)⟩ (by omega) rfl ⟨rfl, rfl, rfl, rfl, trivial⟩ ⟨rfl, trivial⟩
  try simp only [cs, ne_eq] at hc2
  refine W_exit ?_
  refine tx ?_
  refine tx ?_
  refine bx ?_
  refine tn ?_
  refine r1 ?_
  refine s1 4 9 1 rfl rfl rfl rfl rfl rfl trivial ?_
  refine e1 17 rfl ?_
  refine keep [4] rfl ?_
  refine W_ret ?_
  exact out1 4 (SV.i (idxO L (osame o))) (π := [0]) (hout := [some (objsB L)]) Tryd.results78 rfl (by rw [idxO_none (fun j hj => hno j (by omega))]; rfl) rfl rfl ⟨rfl, trivial⟩ ⟨rfl, rfl⟩

theorem containsO_any (o : Ob) (L : List Ob) (hL : L.length ≤ 9223372036854775807) (hk : ∀ j, j < L.length → okind o = okind (L.getD j default) ∧ osize (L.getD j default) ≤ 9223372036854775807) : Spec Tryd.prog G0 70 [.sl 0 0 L.length, methV o] [objsB L] (fun r ho => r = SV.b (L.any (osame o)) ∧ ho = [some (objsB L)]) := by
  refine start 9 1 Tryd.func70 rfl rfl rfl rfl ?_
  refine r1 ?_
  refine s1 4 1 1 rfl rfl rfl rfl rfl rfl trivial ?_
  refine e1 9 rfl ?_
  refine keep [0, 1] rfl ?_
  refine r1 ?_
  refine s1 5 9 1 rfl rfl rfl rfl rfl rfl trivial ?_
  refine s1 6 17 2 rfl rfl rfl rfl rfl rfl trivial ?_
  refine c1 (indexO_any o L hL hk) [0] [0] 7 25 3 rfl rfl rfl rfl rfl rfl rfl rfl Tryd.func78 rfl rfl rfl rfl ⟨rfl, trivial⟩ rfl rfl ?_
  refine s1 8 33 4 rfl rfl rfl rfl rfl rfl (by first | trivial | omega) ?_
  refine s1 4 41 5 rfl rfl rfl rfl rfl rfl trivial ?_
  refine e1 49 rfl ?_
  refine keep [4] rfl ?_
  refine W_ret ?_
  exact out1 4 (SV.b (L.any (osame o))) (π := [0]) (hout := [some (objsB L)]) Tryd.results70 rfl (congrArg SV.b idxO_any) rfl rfl ⟨rfl, trivial⟩ ⟨rfl, rfl⟩

theorem indexN_any (o : Ob) : Spec Tryd.prog G0 78 [.d .nils, methV o] [] (fun r ho => r = SV.i (-1) ∧ ho = []) := by
  refine start 19 0 Tryd.func78 rfl rfl rfl rfl ?_
  refine r1 ?_
  refine s1 4 0 1 rfl rfl rfl rfl rfl rfl trivial ?_
  refine e1 8 rfl ?_
  refine keep [0, 1] rfl ?_
  refine W_seq ?_
  refine r1 ?_
  refine s1 6 8 1 rfl rfl rfl rfl rfl rfl trivial ?_
  refine s1 7 16 2 rfl rfl rfl rfl rfl rfl (by first | trivial | omega) ?_
  refine s1 8 24 3 rfl rfl rfl rfl rfl rfl trivial ?_
  refine e1 32 rfl ?_
  refine keep [0, 1, 7, 8] rfl ?_
  refine W_block ?_
  refine W_unroll 1 ?_
  refine unr ?_
  refine r1 ?_
  refine s1 9 32 1 rfl rfl rfl rfl rfl rfl (by first | trivial | omega) ?_
  refine e1 40 rfl ?_
  refine keep [0, 1, 7, 8, 9] rfl ?_
  refine W_seq ?_
  refine q1 rfl (fun hc2 => ?_) (fun hc2 => ?_)
  · skip
    exact absurd hc2 (by decide)
  try simp only [cs, ne_eq] at hc2
  refine W_exit ?_
  refine tx ?_
  refine tx ?_
  refine bx ?_
  refine tn ?_
  refine r1 ?_
  refine s1 4 40 1 rfl rfl rfl rfl rfl rfl trivial ?_
  refine e1 48 rfl ?_
  refine keep [4] rfl ?_
  refine W_ret ?_
  exact out1 4 (SV.i (-1)) (π := []) (hout := []) Tryd.results78 rfl rfl rfl rfl trivial ⟨rfl, rfl⟩

theorem containsN_any (o : Ob) : Spec Tryd.prog G0 70 [.d .nils, methV o] [] (fun r ho => r = SV.b false ∧ ho = []) := by
  refine start 9 0 Tryd.func70 rfl rfl rfl rfl ?_
  refine r1 ?_
  refine s1 4 0 1 rfl rfl rfl rfl rfl rfl trivial ?_
  refine e1 8 rfl ?_
  refine keep [0, 1] rfl ?_
  refine r1 ?_
  refine s1 5 8 1 rfl rfl rfl rfl rfl rfl trivial ?_
  refine s1 6 16 2 rfl rfl rfl rfl rfl rfl trivial ?_
  refine c1 (indexN_any o) [] [] 7 24 3 rfl rfl rfl rfl rfl rfl rfl rfl Tryd.func78 rfl rfl rfl rfl trivial rfl rfl ?_
  refine s1 8 32 4 rfl rfl rfl rfl rfl rfl (by first | trivial | omega) ?_
  refine s1 4 40 5 rfl rfl rfl rfl rfl rfl trivial ?_
  refine e1 48 rfl ?_
  refine keep [4] rfl ?_
  refine W_ret ?_
  exact out1 4 (SV.b false) (π := []) (hout := []) Tryd.results70 rfl rfl rfl rfl trivial ⟨rfl, rfl⟩

theorem ready_any (L : List Act) (hL : L.length ≤ 9) (m i : Nat) (hm : m < 512) (hi : i < L.length) (Z : List Nat) (es : List (Value × SV × List InB)) : Spec Tryd.prog G0 71 [.ptr 0 0 0, SVu m, SV.i i] [seekB L, .fam Z ⟨es, []⟩] (fun r ho => r = SV.b (rdyTo L m i L.length) ∧ ho = [some (seekB L), some (.fam Z ⟨es, []⟩)]) := by
  refine start 43 2 Tryd.func71 rfl rfl rfl rfl ?_
  refine r1 ?_
  refine s1 6 2 1 rfl rfl rfl rfl rfl rfl trivial ?_
  refine e1 10 rfl ?_
  refine keep [0, 1, 2] rfl ?_
  refine W_seq ?_
  refine r1 ?_
  refine s1 9 10 1 rfl rfl rfl rfl rfl rfl trivial ?_
  refine s1 10 18 2 rfl rfl rfl rfl rfl rfl trivial ?_
  refine s1 11 26 3 rfl rfl rfl rfl rfl rfl trivial ?_
  refine s1 12 34 4 rfl rfl rfl rfl rfl rfl (by first | trivial | omega) ?_
  refine s1 13 42 5 rfl rfl rfl rfl rfl rfl (by first | trivial | omega) ?_
  refine s1 14 50 6 rfl rfl rfl rfl rfl rfl trivial ?_
  refine e1 58 rfl ?_
  refine keep [0, 1, 2, 12, 13, 14] rfl ?_
  refine W_block ?_
  refine loop (α := Nat) 2 (fun n => [(0, .ptr 0 0 0), (1, SVu m), (2, SV.i i), (12, actsV L), (13, SV.i L.length), (14, SV.i n)]) (fun n => [some (seekB L), some (.fam Z ⟨es, []⟩)]) (fun n => n ≤ L.length ∧ rdyTo L m i n = true) (fun n => L.length - n) (0) [0, 1] (fun _ => rfl) ⟨Nat.zero_le _, rfl⟩ rfl ⟨rfl, rfl, rfl, rfl, rfl, rfl, trivial⟩ ⟨rfl, rfl, trivial⟩ (fun n hx => ?_)
  obtain ⟨hn, hno⟩ := hx
  have hb := bitv m hm n
  refine r1 ?_
  refine s1 15 2 1 rfl rfl rfl rfl rfl rfl (by first | trivial | omega) ?_
  refine e1 10 rfl ?_
  refine keep [0, 1, 2, 12, 13, 14, 15] rfl ?_
  refine W_seq ?_
  refine q1 rfl (fun hc2 => ?_) (fun hc2 => ?_)
  · skip
    try simp only [cs, ne_eq] at hc2
    refine W_skip ?_
    refine tn ?_
    refine W_seq ?_
    refine W_block ?_
    refine r1 ?_
    refine s1 16 10 1 rfl rfl rfl rfl rfl rfl trivial ?_
    refine s1 17 18 2 rfl rfl rfl rfl rfl rfl (by first | trivial | omega) ?_
    refine s1 18 26 3 rfl rfl rfl rfl rfl rfl (by first | trivial | omega) ?_
    refine s1 8 34 4 rfl rfl rfl rfl rfl rfl trivial ?_
    refine s1 7 42 5 rfl rfl rfl rfl rfl rfl trivial ?_
    refine s0 50 6 rfl rfl rfl rfl rfl (by first | trivial | omega) ?_
    refine e1 58 rfl ?_
    refine keep [0, 1, 2, 7, 8, 12, 13, 14] rfl ?_
    refine rd1 rfl ?_
    refine d1 19 58 1 rfl rfl rfl rfl rfl rfl trivial ?_
    refine d1 20 66 2 rfl rfl rfl rfl rfl rfl trivial ?_
    refine d1 21 74 3 rfl rfl rfl rfl rfl rfl (by first | trivial | omega) ?_
    refine d1 22 82 4 rfl rfl rfl rfl rfl rfl (by first | trivial | omega) ?_
    refine d1 23 90 5 rfl rfl rfl rfl rfl rfl (by first | trivial | omega) ?_
    refine val 23 (SV.b (!m.testBit n)) rfl (by show SV.b (bits .and .u64 ((m : Int).fdiv (2 ^ (min ((n : Int)).toNat 64))) 1 == 0) = _; rw [hb (by omega)]; cases m.testBit n <;> rfl) ?_
    refine d1 24 98 6 rfl rfl rfl rfl rfl rfl trivial ?_
    refine ask 24 rfl (fun hg4_24 => ?_) (fun hg4_24 => ?_)
    · skip
      try simp only [cs, ne_eq] at hg4_24
      refine g1 5 true 24 25 7 rfl rfl rfl rfl rfl ?_
      refine d1 25 106 7 rfl rfl rfl rfl rfl rfl trivial ?_
      refine g1 5 true 24 26 8 rfl rfl rfl rfl rfl ?_
      refine d1 26 114 8 rfl rfl rfl rfl rfl rfl (by first | trivial | omega) ?_
      refine g1 5 true 24 27 9 rfl rfl rfl rfl rfl ?_
      refine d1 27 122 9 rfl rfl rfl rfl rfl rfl (by first | trivial | omega) ?_
      refine d1 28 130 10 rfl rfl rfl rfl rfl rfl trivial ?_
      refine d1 29 138 11 rfl rfl rfl rfl rfl rfl trivial ?_
      refine ask 29 rfl (fun hg4_29 => ?_) (fun hg4_29 => ?_)
      · skip
        try simp only [cs, ne_eq] at hg4_29
        refine g1 10 true 29 30 12 rfl rfl rfl rfl rfl ?_
        refine d1 30 146 12 rfl rfl rfl rfl rfl rfl trivial ?_
        refine g1 10 true 29 31 13 rfl rfl rfl rfl rfl ?_
        refine d1 31 154 13 rfl rfl rfl rfl rfl rfl (by first | trivial | omega) ?_
        refine g1 10 true 29 32 14 rfl rfl rfl rfl rfl ?_
        refine d1 32 162 14 rfl rfl rfl rfl rfl rfl trivial ?_
        refine g1 10 true 29 33 15 rfl rfl rfl rfl rfl ?_
        refine d1 33 170 15 rfl rfl rfl rfl rfl rfl trivial ?_
        refine g1 10 true 29 34 16 rfl rfl rfl rfl rfl ?_
        refine d1 34 178 16 rfl rfl rfl rfl rfl rfl trivial ?_
        refine g1 10 true 29 35 17 rfl rfl rfl rfl rfl ?_
        refine d1 35 186 17 rfl rfl rfl rfl rfl rfl (by first | trivial | omega) ?_
        refine g1 10 true 29 36 18 rfl rfl rfl rfl rfl ?_
        refine d1 36 194 18 rfl rfl rfl rfl rfl rfl trivial ?_
        refine g1 10 true 29 37 19 rfl rfl rfl rfl rfl ?_
        refine d1 37 202 19 rfl rfl rfl rfl rfl rfl (by first | trivial | omega) ?_
        refine g1 10 true 29 38 20 rfl rfl rfl rfl rfl ?_
        refine d1 38 210 20 rfl rfl rfl rfl rfl rfl trivial ?_
        refine g1 10 true 29 39 21 rfl rfl rfl rfl rfl ?_
        refine d1 39 218 21 rfl rfl rfl rfl rfl rfl (by first | trivial | omega) ?_
        refine g1 10 true 29 40 22 rfl rfl rfl rfl rfl ?_
        refine d1 40 226 22 rfl rfl rfl rfl rfl rfl (by first | trivial | omega) ?_
        refine d1 41 234 23 rfl rfl rfl rfl rfl rfl trivial ?_
        refine de1 242 rfl (by kernel_rfl) ?_
        refine keep [0, 1, 2, 12, 13, 14, 41] rfl ?_
        refine q1 rfl (fun hc4 => ?_) (fun hc4 => ?_)
        · skip
          try simp only [cs, ne_eq] at hc4
          refine r1 ?_
          refine s1 6 242 1 rfl rfl rfl rfl rfl rfl trivial ?_
          refine e1 250 rfl ?_
          refine keep [6] rfl ?_
          refine W_ret ?_
          refine br ?_
          refine tr ?_
          refine tr ?_
          refine br ?_
          refine tr ?_
          exact out1 6 (SV.b (rdyTo L m i L.length)) (π := [0, 1]) (hout := [some (seekB L), some (.fam Z ⟨es, []⟩)]) Tryd.results71 rfl (by rw [rdyTo_false (n := n) (by omega) (by simp only [Int.toNat_natCast] at hg4_29 hc4; rw [hg4_24, decide_eq_false hg4_29, decide_eq_true hc4]; rfl)]; rfl) rfl rfl ⟨rfl, rfl, trivial⟩ ⟨rfl, rfl⟩
        try simp only [cs, ne_eq] at hc4
        refine W_skip ?_
        refine bn ?_
        refine tn ?_
        refine r0 ?_
        refine sA 42 242 1 rfl rfl rfl rfl rfl rfl rfl rfl rfl (by unfold inRange; omega) ?_
        refine s1 14 250 2 rfl rfl rfl rfl rfl rfl trivial ?_
        refine e1 258 rfl ?_
        refine tn ?_
        exact again (n + 1) [0, 1] ⟨by omega, by rw [rdyTo_succ, hno]; first | (rw [hg4_24]; rfl) | (simp only [Int.toNat_natCast] at hg4_29; rw [decide_eq_true hg4_29]; simp; done) | (simp only [Int.toNat_natCast] at hc4; rw [decide_eq_false (Int.not_lt.2 hc4)]; simp; done)⟩ (by omega) rfl ⟨rfl, rfl, rfl, rfl, rfl, rfl, trivial⟩ ⟨rfl, rfl, trivial⟩
      try simp only [cs, ne_eq] at hg4_29
      refine g0 10 true 29 30 12 rfl rfl rfl rfl rfl rfl ?_
      refine g0 10 true 29 31 13 rfl rfl rfl rfl rfl rfl ?_
      refine g0 10 true 29 32 14 rfl rfl rfl rfl rfl rfl ?_
      refine g0 10 true 29 33 15 rfl rfl rfl rfl rfl rfl ?_
      refine g0 10 true 29 34 16 rfl rfl rfl rfl rfl rfl ?_
      refine g0 10 true 29 35 17 rfl rfl rfl rfl rfl rfl ?_
      refine g0 10 true 29 36 18 rfl rfl rfl rfl rfl rfl ?_
      refine g0 10 true 29 37 19 rfl rfl rfl rfl rfl rfl ?_
      refine g0 10 true 29 38 20 rfl rfl rfl rfl rfl rfl ?_
      refine g0 10 true 29 39 21 rfl rfl rfl rfl rfl rfl ?_
      refine g0 10 true 29 40 22 rfl rfl rfl rfl rfl rfl ?_
      refine d1 41 234 23 rfl rfl rfl rfl rfl rfl trivial ?_
      refine de1 242 rfl (by kernel_rfl) ?_
      refine keep [0, 1, 2, 12, 13, 14, 41] rfl ?_
      refine q1 rfl (fun hc4 => ?_) (fun hc4 => ?_)
      · skip
        exact absurd hc4 (by decide)
      try simp only [cs, ne_eq] at hc4
      refine W_skip ?_
      refine bn ?_
      refine tn ?_
      refine r0 ?_
      refine sA 42 242 1 rfl rfl rfl rfl rfl rfl rfl rfl rfl (by unfold inRange; omega) ?_
      refine s1 14 250 2 rfl rfl rfl rfl rfl rfl trivial ?_
      refine e1 258 rfl ?_
      refine tn ?_
      exact again (n + 1) [0, 1] ⟨by omega, by rw [rdyTo_succ, hno]; first | (rw [hg4_24]; rfl) | (simp only [Int.toNat_natCast] at hg4_29; rw [decide_eq_true hg4_29]; simp; done) | (simp only [Int.toNat_natCast] at hc4; rw [decide_eq_false (Int.not_lt.2 hc4)]; simp; done)⟩ (by omega) rfl ⟨rfl, rfl, rfl, rfl, rfl, rfl, trivial⟩ ⟨rfl, rfl, trivial⟩
    try simp only [cs, ne_eq] at hg4_24
    refine g0 5 true 24 25 7 rfl rfl rfl rfl rfl rfl ?_
    refine g0 5 true 24 26 8 rfl rfl rfl rfl rfl rfl ?_
    refine g0 5 true 24 27 9 rfl rfl rfl rfl rfl rfl ?_
    refine d1 28 130 10 rfl rfl rfl rfl rfl rfl trivial ?_
    refine d1 29 138 11 rfl rfl rfl rfl rfl rfl trivial ?_
    refine g0 10 true 29 30 12 rfl rfl rfl rfl rfl rfl ?_
    refine g0 10 true 29 31 13 rfl rfl rfl rfl rfl rfl ?_
    refine g0 10 true 29 32 14 rfl rfl rfl rfl rfl rfl ?_
    refine g0 10 true 29 33 15 rfl rfl rfl rfl rfl rfl ?_
    refine g0 10 true 29 34 16 rfl rfl rfl rfl rfl rfl ?_
    refine g0 10 true 29 35 17 rfl rfl rfl rfl rfl rfl ?_
    refine g0 10 true 29 36 18 rfl rfl rfl rfl rfl rfl ?_
    refine g0 10 true 29 37 19 rfl rfl rfl rfl rfl rfl ?_
    refine g0 10 true 29 38 20 rfl rfl rfl rfl rfl rfl ?_
    refine g0 10 true 29 39 21 rfl rfl rfl rfl rfl rfl ?_
    refine g0 10 true 29 40 22 rfl rfl rfl rfl rfl rfl ?_
    refine d1 41 234 23 rfl rfl rfl rfl rfl rfl trivial ?_
    refine de1 242 rfl (by kernel_rfl) ?_
    refine keep [0, 1, 2, 12, 13, 14, 41] rfl ?_
    refine q1 rfl (fun hc4 => ?_) (fun hc4 => ?_)
    · skip
      exact absurd hc4 (by decide)
    try simp only [cs, ne_eq] at hc4
    refine W_skip ?_
    refine bn ?_
    refine tn ?_
    refine r0 ?_
    refine sA 42 242 1 rfl rfl rfl rfl rfl rfl rfl rfl rfl (by unfold inRange; omega) ?_
    refine s1 14 250 2 rfl rfl rfl rfl rfl rfl trivial ?_
    refine e1 258 rfl ?_
    refine tn ?_
    exact again (n + 1) [0, 1] ⟨by omega, by rw [rdyTo_succ, hno]; first | (rw [hg4_24]; rfl) | (simp only [Int.toNat_natCast] at hg4_29; rw [decide_eq_true hg4_29]; simp; done) | (simp only [Int.toNat_natCast] at hc4; rw [decide_eq_false (Int.not_lt.2 hc4)]; simp; done)⟩ (by omega) rfl ⟨rfl, rfl, rfl, rfl, rfl, rfl, trivial⟩ ⟨rfl, rfl, trivial⟩
  try simp only [cs, ne_eq] at hc2
  refine W_exit ?_
  refine tx ?_
  refine tx ?_
  refine bx ?_
  refine tn ?_
  refine r1 ?_
  refine s1 6 10 1 rfl rfl rfl rfl rfl rfl trivial ?_
  refine e1 18 rfl ?_
  refine keep [6] rfl ?_
  refine W_ret ?_
  exact out1 6 (SV.b (rdyTo L m i L.length)) (π := [0, 1]) (hout := [some (seekB L), some (.fam Z ⟨es, []⟩)]) Tryd.results71 rfl (by have e : n = L.length := (by omega); subst e; rw [hno]; rfl) rfl rfl ⟨rfl, rfl, trivial⟩ ⟨rfl, rfl⟩

end Go.Proofs.YtnnjobmiepnedaaDoor.Nice.Lin
