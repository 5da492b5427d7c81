/- Codes that may be: the program's and the document's. -/
import Derived.Test.YtnnjobmiepnedaaDoorProg
import Derived.Test.YtnnjobmiepnedaaDoorNiceN
import Derived.Test.YtnnjobmiepnedaaDoorNiceR
namespace Go.Proofs.YtnnjobmiepnedaaDoor.Nice
open Go
set_option linter.unusedVariables false
set_option linter.unusedSimpArgs false
set_option maxRecDepth 100000
set_option maxHeartbeats 4000000
def shL : List (List UInt8) := [[], [114, 110, 45, 45], [114, 114, 45, 45], [114, 114, 114, 45], [114, 114, 114, 45], [114, 114, 114, 45], [114, 114, 114, 45], [114, 114, 114, 45], [114, 114, 114, 45], [114, 114, 114, 45], [112, 45, 45, 45], [114, 112, 45, 45], [114, 112, 45, 45], [114, 114, 110, 45], [114, 114, 110, 45], [114, 114, 110, 114], [114, 45, 45, 45], [45, 45, 45, 45]]
def shStr (i : Nat) : ByteArray := ⟨(shL.getD i []).toArray⟩
def shF : Nat → Nat → D := fun i _ => .val (.string (shStr i))
def GV : Nat → SV
  | 0 => .vp 1 18 shF 0 0
  | _ => .any
structure Ins where
  k : Int
  a : Int
  b : Int
  c : Int
  d : Int
  deriving Inhabited
def insC (o : Ins) : Nat → D
  | 0 => .val (.int .i64 o.k)
  | 1 => .val (.int .i64 o.a)
  | 2 => .val (.int .i64 o.b)
  | 3 => .val (.int .i64 o.c)
  | 4 => .val (.int .i64 o.d)
  | _ => .any
def insF (l : List Ins) : Nat → Nat → D := fun i c => insC (l.getD i default) c
def insV (l : List Ins) : SV := .d (.vec 5 l.length (insF l))
def sgn (k : Int) (i : Nat) : Int := ((shStr k.toNat).data.getD i 0).toNat
def fitsB (sg n sz : Int) : Bool := if sg = 114 then decide (0 ≤ n) && decide (n < 24) else if sg = 112 then decide (0 ≤ n) && decide (n ≤ sz) else if sg = 45 then decide (n = 0) else true
def argOf (o : Ins) (i : Nat) : Int := [o.a, o.b, o.c, o.d].getD i 0
def okB (sz : Int) (o : Ins) : Bool := (decide (1 ≤ o.k) && decide (o.k ≤ 17)) && ((fitsB (sgn o.k 0) o.a sz && fitsB (sgn o.k 1) o.b sz) && (fitsB (sgn o.k 2) o.c sz && fitsB (sgn o.k 3) o.d sz))
def mayB (l : List Ins) : Bool := decide (l.length ≤ 200) && l.all (okB l.length)
def regB (n : Int) : Bool := decide (0 ≤ n) && decide (n < 24)
theorem getD_lt {l : List Ins} {k : Nat} (h : k < l.length) : l.getD k default = l[k] := by simp [List.getD, List.getElem?_eq_getElem h]
theorem all_not {l : List Ins} {p : Ins → Bool} {n : Nat} (h : n < l.length) (hp : p (l.getD n default) = false) : l.all p = false := by
  rw [getD_lt h] at hp
  rw [List.all_eq_false]; exact ⟨_, List.getElem_mem h, by rw [hp]; decide⟩
theorem all_yes {l : List Ins} {p : Ins → Bool} (hn : ∀ j, j < l.length → p (l.getD j default) = true) : l.all p = true := by
  rw [List.all_eq_true]
  intro x hx
  obtain ⟨j, hj, rfl⟩ := List.mem_iff_getElem.1 hx
  have := hn j hj; rw [getD_lt hj] at this; exact this
theorem ok_of {sz : Int} {o : Ins} (h1 : 1 ≤ o.k) (h2 : o.k ≤ 17) (h : ∀ j, j < 4 → fitsB (sgn o.k j) (argOf o j) sz = true) : okB sz o = true := by
  unfold okB
  rw [show fitsB (sgn o.k 0) o.a sz = true from h 0 (by omega), show fitsB (sgn o.k 1) o.b sz = true from h 1 (by omega), show fitsB (sgn o.k 2) o.c sz = true from h 2 (by omega), show fitsB (sgn o.k 3) o.d sz = true from h 3 (by omega)]
  simp; omega
theorem ok_not {sz : Int} {o : Ins} {j : Nat} (hj : j < 4) (h : fitsB (sgn o.k j) (argOf o j) sz = false) : okB sz o = false := by
  unfold okB
  match j, hj with
  | 0, _ => rw [show fitsB (sgn o.k 0) o.a sz = false from h]; simp
  | 1, _ => rw [show fitsB (sgn o.k 1) o.b sz = false from h]; simp
  | 2, _ => rw [show fitsB (sgn o.k 2) o.c sz = false from h]; simp
  | 3, _ => rw [show fitsB (sgn o.k 3) o.d sz = false from h]; simp
theorem ok_kind {sz : Int} {o : Ins} (h : o.k < 1 ∨ 17 < o.k) : okB sz o = false := by
  unfold okB
  have : (decide (1 ≤ o.k) && decide (o.k ≤ 17)) = false := by
    rw [Bool.and_eq_false_iff, decide_eq_false_iff_not, decide_eq_false_iff_not]; omega
  rw [this]; rfl
theorem sz_of {k : Int} (h1 : 1 ≤ k) (h2 : k ≤ 17) : (shStr k.toNat).size = 4 := by
  obtain ⟨n, rfl⟩ : ∃ n : Nat, k = n := ⟨k.toNat, by omega⟩
  have hn : 1 ≤ n ∧ n ≤ 17 := by omega
  have key : ∀ m, m < 18 → 1 ≤ m → (shStr m).size = 4 := by decide
  exact key n (by omega) hn.1

theorem fits_any (sg n sz : Int) : Spec Tryd.prog GV 73 [.d (.val (.int .u8 sg)), SV.i n, SV.i sz] [] (fun r ho => r = SV.b (fitsB sg n sz) ∧ ho = []) := by
  refine start 29 0 Tryd.func73 rfl rfl rfl rfl ?_
  refine r1 ?_
  refine s1 6 0 1 rfl rfl rfl rfl rfl rfl trivial ?_
  refine e1 8 rfl ?_
  refine keep [0, 1, 2] rfl ?_
  refine W_seq ?_
  refine r1 ?_
  refine s1 7 8 1 rfl rfl rfl rfl rfl rfl trivial ?_
  refine e1 16 rfl ?_
  refine keep [1, 2, 7] rfl ?_
  refine W_block ?_
  refine r1 ?_
  refine s1 9 16 1 rfl rfl rfl rfl rfl rfl (by first | trivial | omega) ?_
  refine s1 8 24 2 rfl rfl rfl rfl rfl rfl trivial ?_
  refine e1 32 rfl ?_
  refine keep [1, 2, 7, 8] rfl ?_
  refine q1 rfl (fun hc2 => ?_) (fun hc2 => ?_)
  · skip
    try simp only [cs, ne_eq] at hc2
    refine r1 ?_
    refine s1 10 32 1 rfl rfl rfl rfl rfl rfl trivial ?_
    refine s1 11 40 2 rfl rfl rfl rfl rfl rfl (by first | trivial | omega) ?_
    refine s1 12 48 3 rfl rfl rfl rfl rfl rfl trivial ?_
    refine ask 12 rfl (fun hg3_12 => ?_) (fun hg3_12 => ?_)
    · skip
      try simp only [cs, ne_eq] at hg3_12
      refine g1 2 true 12 13 4 rfl rfl rfl rfl rfl ?_
      refine s1 13 56 4 rfl rfl rfl rfl rfl rfl trivial ?_
      refine g1 2 true 12 14 5 rfl rfl rfl rfl rfl ?_
      refine s1 14 64 5 rfl rfl rfl rfl rfl rfl (by first | trivial | omega) ?_
      refine s1 15 72 6 rfl rfl rfl rfl rfl rfl trivial ?_
      refine s1 6 80 7 rfl rfl rfl rfl rfl rfl trivial ?_
      refine e1 88 rfl ?_
      refine keep [6] rfl ?_
      refine W_ret ?_
      refine br ?_
      refine tr ?_
      exact out1 6 (SV.b (fitsB sg n sz)) (π := []) (hout := []) Tryd.results73 rfl (by show SV.b _ = SV.b _; refine congrArg SV.b (Bool.eq_iff_iff.2 ?_); unfold fitsB; (try simp only [*, if_true, if_false]); first | done | (simp [*] at *; done) | (simp [*] at *; omega) | (simp at *; omega) | (simp [*]; done) | (simp [*]; omega)) rfl rfl trivial ⟨rfl, rfl⟩
    try simp only [cs, ne_eq] at hg3_12
    refine g0 2 true 12 13 4 rfl rfl rfl rfl rfl rfl ?_
    refine g0 2 true 12 14 5 rfl rfl rfl rfl rfl rfl ?_
    refine s1 15 72 6 rfl rfl rfl rfl rfl rfl trivial ?_
    refine s1 6 80 7 rfl rfl rfl rfl rfl rfl trivial ?_
    refine e1 88 rfl ?_
    refine keep [6] rfl ?_
    refine W_ret ?_
    refine br ?_
    refine tr ?_
    exact out1 6 (SV.b (fitsB sg n sz)) (π := []) (hout := []) Tryd.results73 rfl (by show SV.b _ = SV.b _; refine congrArg SV.b (Bool.eq_iff_iff.2 ?_); unfold fitsB; (try simp only [*, if_true, if_false]); first | done | (simp [*] at *; done) | (simp [*] at *; omega) | (simp at *; omega) | (simp [*]; done) | (simp [*]; omega)) rfl rfl trivial ⟨rfl, rfl⟩
  try simp only [cs, ne_eq] at hc2
  refine r1 ?_
  refine s1 17 32 1 rfl rfl rfl rfl rfl rfl (by first | trivial | omega) ?_
  refine s1 16 40 2 rfl rfl rfl rfl rfl rfl trivial ?_
  refine e1 48 rfl ?_
  refine keep [1, 2, 7, 16] rfl ?_
  refine q1 rfl (fun hc4 => ?_) (fun hc4 => ?_)
  · skip
    try simp only [cs, ne_eq] at hc4
    refine r1 ?_
    refine s1 18 48 1 rfl rfl rfl rfl rfl rfl trivial ?_
    refine s1 19 56 2 rfl rfl rfl rfl rfl rfl (by first | trivial | omega) ?_
    refine s1 20 64 3 rfl rfl rfl rfl rfl rfl trivial ?_
    refine ask 20 rfl (fun hg5_20 => ?_) (fun hg5_20 => ?_)
    · skip
      try simp only [cs, ne_eq] at hg5_20
      refine g1 2 true 20 21 4 rfl rfl rfl rfl rfl ?_
      refine s1 21 72 4 rfl rfl rfl rfl rfl rfl trivial ?_
      refine g1 2 true 20 22 5 rfl rfl rfl rfl rfl ?_
      refine s1 22 80 5 rfl rfl rfl rfl rfl rfl trivial ?_
      refine g1 2 true 20 23 6 rfl rfl rfl rfl rfl ?_
      refine s1 23 88 6 rfl rfl rfl rfl rfl rfl (by first | trivial | omega) ?_
      refine s1 24 96 7 rfl rfl rfl rfl rfl rfl trivial ?_
      refine s1 6 104 8 rfl rfl rfl rfl rfl rfl trivial ?_
      refine e1 112 rfl ?_
      refine keep [6] rfl ?_
      refine W_ret ?_
      refine br ?_
      refine tr ?_
      exact out1 6 (SV.b (fitsB sg n sz)) (π := []) (hout := []) Tryd.results73 rfl (by show SV.b _ = SV.b _; refine congrArg SV.b (Bool.eq_iff_iff.2 ?_); unfold fitsB; (try simp only [*, if_true, if_false]); first | done | (simp [*] at *; done) | (simp [*] at *; omega) | (simp at *; omega) | (simp [*]; done) | (simp [*]; omega)) rfl rfl trivial ⟨rfl, rfl⟩
    try simp only [cs, ne_eq] at hg5_20
    refine g0 2 true 20 21 4 rfl rfl rfl rfl rfl rfl ?_
    refine g0 2 true 20 22 5 rfl rfl rfl rfl rfl rfl ?_
    refine g0 2 true 20 23 6 rfl rfl rfl rfl rfl rfl ?_
    refine s1 24 96 7 rfl rfl rfl rfl rfl rfl trivial ?_
    refine s1 6 104 8 rfl rfl rfl rfl rfl rfl trivial ?_
    refine e1 112 rfl ?_
    refine keep [6] rfl ?_
    refine W_ret ?_
    refine br ?_
    refine tr ?_
    exact out1 6 (SV.b (fitsB sg n sz)) (π := []) (hout := []) Tryd.results73 rfl (by show SV.b _ = SV.b _; refine congrArg SV.b (Bool.eq_iff_iff.2 ?_); unfold fitsB; (try simp only [*, if_true, if_false]); first | done | (simp [*] at *; done) | (simp [*] at *; omega) | (simp at *; omega) | (simp [*]; done) | (simp [*]; omega)) rfl rfl trivial ⟨rfl, rfl⟩
  try simp only [cs, ne_eq] at hc4
  refine r1 ?_
  refine s1 26 48 1 rfl rfl rfl rfl rfl rfl (by first | trivial | omega) ?_
  refine s1 25 56 2 rfl rfl rfl rfl rfl rfl trivial ?_
  refine e1 64 rfl ?_
  refine keep [1, 25] rfl ?_
  refine q1 rfl (fun hc6 => ?_) (fun hc6 => ?_)
  · skip
    try simp only [cs, ne_eq] at hc6
    refine r1 ?_
    refine s1 27 64 1 rfl rfl rfl rfl rfl rfl trivial ?_
    refine s1 28 72 2 rfl rfl rfl rfl rfl rfl (by first | trivial | omega) ?_
    refine s1 6 80 3 rfl rfl rfl rfl rfl rfl trivial ?_
    refine e1 88 rfl ?_
    refine keep [6] rfl ?_
    refine W_ret ?_
    refine br ?_
    refine tr ?_
    exact out1 6 (SV.b (fitsB sg n sz)) (π := []) (hout := []) Tryd.results73 rfl (by show SV.b _ = SV.b _; refine congrArg SV.b (Bool.eq_iff_iff.2 ?_); unfold fitsB; (try simp only [*, if_true, if_false]); first | done | (simp [*] at *; done) | (simp [*] at *; omega) | (simp at *; omega) | (simp [*]; done) | (simp [*]; omega)) rfl rfl trivial ⟨rfl, rfl⟩
  try simp only [cs, ne_eq] at hc6
  refine W_skip ?_
  refine bn ?_
  refine tn ?_
  refine r1 ?_
  refine s1 6 64 1 rfl rfl rfl rfl rfl rfl trivial ?_
  refine e1 72 rfl ?_
  refine keep [6] rfl ?_
  refine W_ret ?_
  exact out1 6 (SV.b (fitsB sg n sz)) (π := []) (hout := []) Tryd.results73 rfl (by show SV.b _ = SV.b _; refine congrArg SV.b (Bool.eq_iff_iff.2 ?_); unfold fitsB; (try simp only [*, if_true, if_false]); first | done | (simp [*] at *; done) | (simp [*] at *; omega) | (simp at *; omega) | (simp [*]; done) | (simp [*]; omega)) rfl rfl trivial ⟨rfl, rfl⟩

theorem may_any (l : List Ins) (hl : l.length ≤ 9223372036854775807) : Spec Tryd.prog GV 58 [insV l] [] (fun r ho => r = SV.b (mayB l) ∧ ho = []) := by
  refine start 50 0 Tryd.func58 rfl rfl rfl rfl ?_
  refine r1 ?_
  refine s1 2 0 1 rfl rfl rfl rfl rfl rfl trivial ?_
  refine e1 8 rfl ?_
  refine keep [0] rfl ?_
  refine W_seq ?_
  refine r1 ?_
  refine s1 7 8 1 rfl rfl rfl rfl rfl rfl trivial ?_
  refine s1 8 16 2 rfl rfl rfl rfl rfl rfl (by first | trivial | omega) ?_
  refine s1 9 24 3 rfl rfl rfl rfl rfl rfl trivial ?_
  refine e1 32 rfl ?_
  refine keep [0, 7, 8, 9] rfl ?_
  refine W_block ?_
  refine loop (α := Nat) 0 (fun n => [(0, insV l), (7, insV l), (8, SV.i l.length), (9, SV.i n)]) (fun n => []) (fun n => n ≤ l.length ∧ ∀ j, j < n → okB l.length (l.getD j default) = true) (fun n => l.length - n) (0) [] (fun _ => rfl) ⟨Nat.zero_le _, fun j hj => by omega⟩ rfl ⟨rfl, rfl, rfl, rfl, trivial⟩ trivial (fun n hx => ?_)
  obtain ⟨hn, hno⟩ := hx
  refine r1 ?_
  refine s1 10 0 1 rfl rfl rfl rfl rfl rfl (by first | trivial | omega) ?_
  refine e1 8 rfl ?_
  refine keep [0, 7, 8, 9, 10] rfl ?_
  refine W_seq ?_
  refine q1 rfl (fun hc2 => ?_) (fun hc2 => ?_)
  · skip
    try simp only [cs, ne_eq] at hc2
    refine W_skip ?_
    refine tn ?_
    refine W_seq ?_
    refine W_block ?_
    refine r1 ?_
    refine s1 11 8 1 rfl rfl rfl rfl rfl rfl (by first | trivial | omega) ?_
    refine s1 12 16 2 rfl rfl rfl rfl rfl rfl (by first | trivial | omega) ?_
    refine s1 4 24 3 rfl rfl rfl rfl rfl rfl trivial ?_
    refine s0 32 4 rfl rfl rfl rfl rfl (by first | trivial | omega) ?_
    refine e1 40 rfl ?_
    refine keep [0, 4, 7, 8, 9] rfl ?_
    refine W_seq ?_
    refine r1 ?_
    refine s1 13 40 1 rfl rfl rfl rfl rfl rfl trivial ?_
    refine s1 14 48 2 rfl rfl rfl rfl rfl rfl (by first | trivial | omega) ?_
    refine s1 15 56 3 rfl rfl rfl rfl rfl rfl (by first | trivial | omega) ?_
    refine s1 16 64 4 rfl rfl rfl rfl rfl rfl trivial ?_
    refine ask 16 rfl (fun hg4_16 => ?_) (fun hg4_16 => ?_)
    · skip
      try simp only [cs, ne_eq] at hg4_16
      refine g0 3 false 16 17 5 rfl rfl rfl rfl rfl rfl ?_
      refine g0 3 false 16 18 6 rfl rfl rfl rfl rfl rfl ?_
      refine g0 3 false 16 19 7 rfl rfl rfl rfl rfl rfl ?_
      refine s1 20 96 8 rfl rfl rfl rfl rfl rfl trivial ?_
      refine e1 104 rfl ?_
      refine keep [0, 4, 7, 8, 9, 20] rfl ?_
      refine q1 rfl (fun hc4 => ?_) (fun hc4 => ?_)
      · skip
        try simp only [cs, ne_eq] at hc4
        refine r1 ?_
        refine s1 2 104 1 rfl rfl rfl rfl rfl rfl trivial ?_
        refine e1 112 rfl ?_
        refine keep [2] rfl ?_
        refine W_ret ?_
        refine tr ?_
        refine br ?_
        refine tr ?_
        refine tr ?_
        refine br ?_
        refine tr ?_
        exact out1 2 (SV.b (mayB l)) (π := []) (hout := []) Tryd.results58 rfl (by have hb : okB l.length (l.getD n default) = false := ok_kind (by simp only [Int.toNat_natCast] at *; omega); have := all_not (by omega) hb; show SV.b _ = SV.b _; refine congrArg SV.b ?_; simp [mayB, this]) rfl rfl trivial ⟨rfl, rfl⟩
      exact absurd hc4 (by decide)
    try simp only [cs, ne_eq] at hg4_16
    refine g1 3 false 16 17 5 rfl rfl rfl rfl rfl ?_
    refine s1 17 72 5 rfl rfl rfl rfl rfl rfl trivial ?_
    refine g1 3 false 16 18 6 rfl rfl rfl rfl rfl ?_
    refine s1 18 80 6 rfl rfl rfl rfl rfl rfl (by first | trivial | omega) ?_
    refine g1 3 false 16 19 7 rfl rfl rfl rfl rfl ?_
    refine s1 19 88 7 rfl rfl rfl rfl rfl rfl (by first | trivial | omega) ?_
    refine s1 20 96 8 rfl rfl rfl rfl rfl rfl trivial ?_
    refine e1 104 rfl ?_
    refine keep [0, 4, 7, 8, 9, 20] rfl ?_
    refine q1 rfl (fun hc4 => ?_) (fun hc4 => ?_)
    · skip
      try simp only [cs, ne_eq] at hc4
      refine r1 ?_
      refine s1 2 104 1 rfl rfl rfl rfl rfl rfl trivial ?_
      refine e1 112 rfl ?_
      refine keep [2] rfl ?_
      refine W_ret ?_
      refine tr ?_
      refine br ?_
      refine tr ?_
      refine tr ?_
      refine br ?_
      refine tr ?_
      exact out1 2 (SV.b (mayB l)) (π := []) (hout := []) Tryd.results58 rfl (by have hb : okB l.length (l.getD n default) = false := ok_kind (by simp only [Int.toNat_natCast] at *; omega); have := all_not (by omega) hb; show SV.b _ = SV.b _; refine congrArg SV.b ?_; simp [mayB, this]) rfl rfl trivial ⟨rfl, rfl⟩
    try simp only [cs, ne_eq] at hc4
    refine W_skip ?_
    refine tn ?_
    refine r1 ?_
    refine s1 21 104 1 rfl rfl rfl rfl rfl rfl trivial ?_
    refine s1 22 112 2 rfl rfl rfl rfl rfl rfl (by first | trivial | omega) ?_
    refine s1 23 120 3 rfl rfl rfl rfl rfl rfl trivial ?_
    refine s1 24 128 4 rfl rfl rfl rfl rfl rfl (by first | trivial | omega) ?_
    refine s1 25 136 5 rfl rfl rfl rfl rfl rfl trivial ?_
    refine s1 26 144 6 rfl rfl rfl rfl rfl rfl (by first | trivial | omega) ?_
    refine s1 27 152 7 rfl rfl rfl rfl rfl rfl trivial ?_
    refine s1 28 160 8 rfl rfl rfl rfl rfl rfl (by first | trivial | omega) ?_
    refine s1 29 168 9 rfl rfl rfl rfl rfl rfl trivial ?_
    refine s1 30 176 10 rfl rfl rfl rfl rfl rfl trivial ?_
    refine e1 184 rfl ?_
    refine keep [0, 4, 7, 8, 9, 29, 30] rfl ?_
    refine W_block ?_
    refine loop (α := Nat) 1 (fun i => [(0, insV l), (4, .ptr 0 0 0), (7, insV l), (8, SV.i l.length), (9, SV.i n), (29, .agg [SV.i (l.getD n default).a, SV.i (l.getD n default).b, SV.i (l.getD n default).c, SV.i (l.getD n default).d]), (30, SV.i i)]) (fun i => [some (.cells 64 5 [SV.i (l.getD n default).k, SV.i (l.getD n default).a, SV.i (l.getD n default).b, SV.i (l.getD n default).c, SV.i (l.getD n default).d])]) (fun i => i ≤ 4 ∧ ∀ j, j < i → fitsB (sgn (l.getD n default).k j) (argOf (l.getD n default) j) l.length = true) (fun i => 4 - i) (0) [24] (fun _ => rfl) ⟨Nat.zero_le _, fun j hj => by omega⟩ rfl ⟨rfl, rfl, rfl, rfl, rfl, rfl, rfl, trivial⟩ ⟨rfl, trivial⟩ (fun i hx => ?_)
    obtain ⟨hi4, hni⟩ := hx
    refine r1 ?_
    refine s1 31 1 1 rfl rfl rfl rfl rfl rfl (by first | trivial | omega) ?_
    refine e1 9 rfl ?_
    refine keep [0, 4, 7, 8, 9, 29, 30, 31] rfl ?_
    refine W_seq ?_
    refine q1 rfl (fun hc7 => ?_) (fun hc7 => ?_)
    · skip
      try simp only [cs, ne_eq] at hc7
      refine W_skip ?_
      refine tn ?_
      refine W_seq ?_
      refine W_block ?_
      refine r1 ?_
      refine s1 32 9 1 rfl rfl rfl rfl rfl rfl trivial ?_
      refine s1 33 17 2 rfl rfl rfl rfl rfl rfl (by first | trivial | omega | (simp only [List.length_cons, List.length_nil]; omega)) ?_
      refine s1 5 25 3 rfl rfl rfl rfl rfl rfl trivial ?_
      refine s1 6 33 4 rfl rfl rfl rfl rfl rfl trivial ?_
      refine e1 41 rfl ?_
      refine keep [0, 4, 5, 6, 7, 8, 9, 29, 30] rfl ?_
      refine r1 ?_
      refine s1 34 41 1 rfl rfl rfl rfl rfl rfl trivial ?_
      refine s1 35 49 2 rfl rfl rfl rfl rfl rfl (by first | trivial | omega) ?_
      refine s1 36 57 3 rfl rfl rfl rfl rfl rfl (by simp only [Int.toNat_natCast] at *; omega) ?_
      refine s1 37 65 4 rfl rfl rfl rfl rfl rfl (by simp only [Int.toNat_natCast] at *; omega) ?_
      refine s1 38 73 5 rfl rfl rfl rfl rfl rfl trivial ?_
      refine s1 39 81 6 rfl rfl rfl rfl rfl rfl (by simp only [Int.toNat_natCast, Nat.zero_add] at *; have := sz_of (k := (l.getD n default).k) (by omega) (by omega); omega) ?_
      refine val 39 (.d (.val (.int .u8 (sgn (l.getD n default).k i)))) rfl (by unfold sgn; simp only [Nat.zero_add, Int.toNat_natCast]) ?_
      refine s1 40 89 7 rfl rfl rfl rfl rfl rfl trivial ?_
      refine s1 41 97 8 rfl rfl rfl rfl rfl rfl trivial ?_
      refine s1 42 105 9 rfl rfl rfl rfl rfl rfl (by first | trivial | omega) ?_
      refine c1 (fits_any (sgn (l.getD n default).k i) (argOf (l.getD n default) i) l.length) [] [] 43 113 10 rfl rfl rfl rfl rfl rfl rfl rfl Tryd.func73 rfl rfl rfl rfl trivial rfl rfl ?_
      refine s1 44 121 11 rfl rfl rfl rfl rfl rfl trivial ?_
      refine e1 129 rfl ?_
      refine keep [0, 4, 7, 8, 9, 29, 30, 44] rfl ?_
      refine q1 rfl (fun hc9 => ?_) (fun hc9 => ?_)
      · skip
        try simp only [cs, ne_eq] at hc9
        refine r1 ?_
        refine s1 2 129 1 rfl rfl rfl rfl rfl rfl trivial ?_
        refine e1 137 rfl ?_
        refine keep [2] rfl ?_
        refine W_ret ?_
        refine br ?_
        refine tr ?_
        refine tr ?_
        refine br ?_
        refine br ?_
        refine tr ?_
        refine tr ?_
        refine br ?_
        refine tr ?_
        exact out1 2 (SV.b (mayB l)) (π := []) (hout := []) Tryd.results58 rfl (by have hb : okB l.length (l.getD n default) = false := ok_not (j := i) (by omega) hc9; have := all_not (by omega) hb; show SV.b _ = SV.b _; refine congrArg SV.b ?_; simp [mayB, this]) rfl rfl trivial ⟨rfl, rfl⟩
      try simp only [cs, ne_eq] at hc9
      refine W_skip ?_
      refine bn ?_
      refine tn ?_
      refine r0 ?_
      refine sA 45 129 1 rfl rfl rfl rfl rfl rfl rfl rfl rfl (by unfold inRange; omega) ?_
      refine s1 30 137 2 rfl rfl rfl rfl rfl rfl trivial ?_
      refine e1 145 rfl ?_
      refine tn ?_
      exact again (i + 1) [0] ⟨by omega, fun j hj => by by_cases e : j = i; (subst e; exact hc9); exact hni j (by omega)⟩ (by omega) rfl ⟨rfl, rfl, rfl, rfl, rfl, rfl, rfl, trivial⟩ ⟨rfl, trivial⟩
    try simp only [cs, ne_eq] at hc7
    refine W_exit ?_
    refine tx ?_
    refine tx ?_
    refine bx ?_
    refine bn ?_
    refine tn ?_
    refine r0 ?_
    refine sA 46 9 1 rfl rfl rfl rfl rfl rfl rfl rfl rfl (by unfold inRange; omega) ?_
    refine s1 9 17 2 rfl rfl rfl rfl rfl rfl trivial ?_
    refine e1 25 rfl ?_
    refine tn ?_
    exact again (n + 1) [] ⟨by omega, fun j hj => by by_cases e : j = n; (subst e; exact ok_of (by simp only [Int.toNat_natCast] at *; omega) (by simp only [Int.toNat_natCast] at *; omega) (fun q hq => hni q (by omega))); exact hno j (by omega)⟩ (by omega) rfl ⟨rfl, rfl, rfl, rfl, trivial⟩ trivial
  try simp only [cs, ne_eq] at hc2
  refine W_exit ?_
  refine tx ?_
  refine tx ?_
  refine bx ?_
  refine tn ?_
  refine r1 ?_
  refine s1 47 8 1 rfl rfl rfl rfl rfl rfl trivial ?_
  refine s1 48 16 2 rfl rfl rfl rfl rfl rfl (by first | trivial | omega) ?_
  refine s1 49 24 3 rfl rfl rfl rfl rfl rfl (by first | trivial | omega) ?_
  refine s1 2 32 4 rfl rfl rfl rfl rfl rfl trivial ?_
  refine e1 40 rfl ?_
  refine keep [2] rfl ?_
  refine W_ret ?_
  exact out1 2 (SV.b (mayB l)) (π := []) (hout := []) Tryd.results58 rfl (by have := all_yes (fun j hj => hno j (by omega)); show SV.b _ = SV.b _; refine congrArg SV.b ?_; unfold mayB; rw [this, Bool.and_true]; rw [Bool.eq_iff_iff]; simp; try omega) rfl rfl trivial ⟨rfl, rfl⟩



theorem ok_1 {sz : Int} {o : Ins} (h : o.k = 1) : okB sz o = true ↔ (0 ≤ o.a ∧ o.a < 24) ∧ o.c = 0 ∧ o.d = 0 := by
  unfold okB
  rw [h]
  simp only [show sgn 1 0 = 114 from rfl, show sgn 1 1 = 110 from rfl, show sgn 1 2 = 45 from rfl, show sgn 1 3 = 45 from rfl]
  simp [fitsB]
  try omega

theorem ok_2 {sz : Int} {o : Ins} (h : o.k = 2) : okB sz o = true ↔ (0 ≤ o.a ∧ o.a < 24) ∧ (0 ≤ o.b ∧ o.b < 24) ∧ o.c = 0 ∧ o.d = 0 := by
  unfold okB
  rw [h]
  simp only [show sgn 2 0 = 114 from rfl, show sgn 2 1 = 114 from rfl, show sgn 2 2 = 45 from rfl, show sgn 2 3 = 45 from rfl]
  simp [fitsB]
  try omega

theorem ok_3 {sz : Int} {o : Ins} (h : o.k = 3) : okB sz o = true ↔ (0 ≤ o.a ∧ o.a < 24) ∧ (0 ≤ o.b ∧ o.b < 24) ∧ (0 ≤ o.c ∧ o.c < 24) ∧ o.d = 0 := by
  unfold okB
  rw [h]
  simp only [show sgn 3 0 = 114 from rfl, show sgn 3 1 = 114 from rfl, show sgn 3 2 = 114 from rfl, show sgn 3 3 = 45 from rfl]
  simp [fitsB]
  try omega

theorem ok_4 {sz : Int} {o : Ins} (h : o.k = 4) : okB sz o = true ↔ (0 ≤ o.a ∧ o.a < 24) ∧ (0 ≤ o.b ∧ o.b < 24) ∧ (0 ≤ o.c ∧ o.c < 24) ∧ o.d = 0 := by
  unfold okB
  rw [h]
  simp only [show sgn 4 0 = 114 from rfl, show sgn 4 1 = 114 from rfl, show sgn 4 2 = 114 from rfl, show sgn 4 3 = 45 from rfl]
  simp [fitsB]
  try omega

theorem ok_5 {sz : Int} {o : Ins} (h : o.k = 5) : okB sz o = true ↔ (0 ≤ o.a ∧ o.a < 24) ∧ (0 ≤ o.b ∧ o.b < 24) ∧ (0 ≤ o.c ∧ o.c < 24) ∧ o.d = 0 := by
  unfold okB
  rw [h]
  simp only [show sgn 5 0 = 114 from rfl, show sgn 5 1 = 114 from rfl, show sgn 5 2 = 114 from rfl, show sgn 5 3 = 45 from rfl]
  simp [fitsB]
  try omega

theorem ok_6 {sz : Int} {o : Ins} (h : o.k = 6) : okB sz o = true ↔ (0 ≤ o.a ∧ o.a < 24) ∧ (0 ≤ o.b ∧ o.b < 24) ∧ (0 ≤ o.c ∧ o.c < 24) ∧ o.d = 0 := by
  unfold okB
  rw [h]
  simp only [show sgn 6 0 = 114 from rfl, show sgn 6 1 = 114 from rfl, show sgn 6 2 = 114 from rfl, show sgn 6 3 = 45 from rfl]
  simp [fitsB]
  try omega

theorem ok_7 {sz : Int} {o : Ins} (h : o.k = 7) : okB sz o = true ↔ (0 ≤ o.a ∧ o.a < 24) ∧ (0 ≤ o.b ∧ o.b < 24) ∧ (0 ≤ o.c ∧ o.c < 24) ∧ o.d = 0 := by
  unfold okB
  rw [h]
  simp only [show sgn 7 0 = 114 from rfl, show sgn 7 1 = 114 from rfl, show sgn 7 2 = 114 from rfl, show sgn 7 3 = 45 from rfl]
  simp [fitsB]
  try omega

theorem ok_8 {sz : Int} {o : Ins} (h : o.k = 8) : okB sz o = true ↔ (0 ≤ o.a ∧ o.a < 24) ∧ (0 ≤ o.b ∧ o.b < 24) ∧ (0 ≤ o.c ∧ o.c < 24) ∧ o.d = 0 := by
  unfold okB
  rw [h]
  simp only [show sgn 8 0 = 114 from rfl, show sgn 8 1 = 114 from rfl, show sgn 8 2 = 114 from rfl, show sgn 8 3 = 45 from rfl]
  simp [fitsB]
  try omega

theorem ok_9 {sz : Int} {o : Ins} (h : o.k = 9) : okB sz o = true ↔ (0 ≤ o.a ∧ o.a < 24) ∧ (0 ≤ o.b ∧ o.b < 24) ∧ (0 ≤ o.c ∧ o.c < 24) ∧ o.d = 0 := by
  unfold okB
  rw [h]
  simp only [show sgn 9 0 = 114 from rfl, show sgn 9 1 = 114 from rfl, show sgn 9 2 = 114 from rfl, show sgn 9 3 = 45 from rfl]
  simp [fitsB]
  try omega

theorem ok_10 {sz : Int} {o : Ins} (h : o.k = 10) : okB sz o = true ↔ (0 ≤ o.a ∧ o.a ≤ sz) ∧ o.b = 0 ∧ o.c = 0 ∧ o.d = 0 := by
  unfold okB
  rw [h]
  simp only [show sgn 10 0 = 112 from rfl, show sgn 10 1 = 45 from rfl, show sgn 10 2 = 45 from rfl, show sgn 10 3 = 45 from rfl]
  simp [fitsB]
  try omega

theorem ok_11 {sz : Int} {o : Ins} (h : o.k = 11) : okB sz o = true ↔ (0 ≤ o.a ∧ o.a < 24) ∧ (0 ≤ o.b ∧ o.b ≤ sz) ∧ o.c = 0 ∧ o.d = 0 := by
  unfold okB
  rw [h]
  simp only [show sgn 11 0 = 114 from rfl, show sgn 11 1 = 112 from rfl, show sgn 11 2 = 45 from rfl, show sgn 11 3 = 45 from rfl]
  simp [fitsB]
  try omega

theorem ok_12 {sz : Int} {o : Ins} (h : o.k = 12) : okB sz o = true ↔ (0 ≤ o.a ∧ o.a < 24) ∧ (0 ≤ o.b ∧ o.b ≤ sz) ∧ o.c = 0 ∧ o.d = 0 := by
  unfold okB
  rw [h]
  simp only [show sgn 12 0 = 114 from rfl, show sgn 12 1 = 112 from rfl, show sgn 12 2 = 45 from rfl, show sgn 12 3 = 45 from rfl]
  simp [fitsB]
  try omega

theorem ok_13 {sz : Int} {o : Ins} (h : o.k = 13) : okB sz o = true ↔ (0 ≤ o.a ∧ o.a < 24) ∧ (0 ≤ o.b ∧ o.b < 24) ∧ o.d = 0 := by
  unfold okB
  rw [h]
  simp only [show sgn 13 0 = 114 from rfl, show sgn 13 1 = 114 from rfl, show sgn 13 2 = 110 from rfl, show sgn 13 3 = 45 from rfl]
  simp [fitsB]
  try omega

theorem ok_14 {sz : Int} {o : Ins} (h : o.k = 14) : okB sz o = true ↔ (0 ≤ o.a ∧ o.a < 24) ∧ (0 ≤ o.b ∧ o.b < 24) ∧ o.d = 0 := by
  unfold okB
  rw [h]
  simp only [show sgn 14 0 = 114 from rfl, show sgn 14 1 = 114 from rfl, show sgn 14 2 = 110 from rfl, show sgn 14 3 = 45 from rfl]
  simp [fitsB]
  try omega

theorem ok_15 {sz : Int} {o : Ins} (h : o.k = 15) : okB sz o = true ↔ (0 ≤ o.a ∧ o.a < 24) ∧ (0 ≤ o.b ∧ o.b < 24) ∧ (0 ≤ o.d ∧ o.d < 24) := by
  unfold okB
  rw [h]
  simp only [show sgn 15 0 = 114 from rfl, show sgn 15 1 = 114 from rfl, show sgn 15 2 = 110 from rfl, show sgn 15 3 = 114 from rfl]
  simp [fitsB]
  try omega

theorem ok_16 {sz : Int} {o : Ins} (h : o.k = 16) : okB sz o = true ↔ (0 ≤ o.a ∧ o.a < 24) ∧ o.b = 0 ∧ o.c = 0 ∧ o.d = 0 := by
  unfold okB
  rw [h]
  simp only [show sgn 16 0 = 114 from rfl, show sgn 16 1 = 45 from rfl, show sgn 16 2 = 45 from rfl, show sgn 16 3 = 45 from rfl]
  simp [fitsB]
  try omega

theorem ok_17 {sz : Int} {o : Ins} (h : o.k = 17) : okB sz o = true ↔ o.a = 0 ∧ o.b = 0 ∧ o.c = 0 ∧ o.d = 0 := by
  unfold okB
  rw [h]
  simp only [show sgn 17 0 = 45 from rfl, show sgn 17 1 = 45 from rfl, show sgn 17 2 = 45 from rfl, show sgn 17 3 = 45 from rfl]
  simp [fitsB]
  try omega

end Go.Proofs.YtnnjobmiepnedaaDoor.Nice

/- Codes that may be: the document's function, and the law's. -/
namespace Go.Proofs.YtnnjobmiepnedaaDoor.Nice
open Go
set_option linter.unusedVariables false
set_option linter.unusedSimpArgs false
set_option maxRecDepth 100000
set_option maxHeartbeats 4000000



end Go.Proofs.YtnnjobmiepnedaaDoor.Nice

/- Machines that may be: the program's and the document's. -/
namespace Go.Proofs.YtnnjobmiepnedaaDoor.Nice
open Go
set_option linter.unusedVariables false
set_option linter.unusedSimpArgs false
set_option maxRecDepth 100000
set_option maxHeartbeats 4000000
def intsF (l : List Int) : Nat → Nat → D := fun i _ => .val (.int .i64 (l.getD i 0))
structure CallD where
  code : Int
  args : List Int
  deriving Inhabited
def callC (c : CallD) : Nat → D
  | 0 => .val (.int .i64 c.code)
  | 1 => .vec 1 c.args.length (intsF c.args)
  | _ => .any
def callF (l : List CallD) : Nat → Nat → D := fun i c => callC (l.getD i default) c
def callV (l : List CallD) : SV := .d (.vec 2 l.length (callF l))
def callS (c : CallD) : SV := .agg [.d (callC c 0), .d (callC c 1)]
structure Mach where
  ws : List Int
  cs : List (List Ins)
  ts : List (List CallD)
def codesD (cs : List (List Ins)) : D := .vec 1 cs.length (fun i _ => .vec 5 (cs.getD i []).length (insF (cs.getD i [])))
def thrD (ts : List (List CallD)) : D := .vec 1 ts.length (fun i _ => .vec 2 (ts.getD i []).length (callF (ts.getD i [])))
def machS (m : Mach) : SV := .agg [.d (.vec 1 m.ws.length (intsF m.ws)), .d (codesD m.cs), .d (thrD m.ts)]
def machBlk (m : Mach) : Blk := .cells 28 3 [.d (.vec 1 m.ws.length (intsF m.ws)), .d (codesD m.cs), .d (thrD m.ts)]
def Mach.ok (m : Mach) : Prop := m.ws.length ≤ 9223372036854775807 ∧ m.cs.length ≤ 9223372036854775807 ∧ m.ts.length ≤ 9223372036854775807 ∧ (∀ n, (m.cs.getD n []).length ≤ 9223372036854775807) ∧ (∀ n, (m.ts.getD n []).length ≤ 9223372036854775807)
def badB (nc : Nat) (c : CallD) : Bool := decide (c.code < 0) || (decide ((nc : Int) ≤ c.code) || decide (8 < c.args.length))
def thrB (nc : Nat) (t : List CallD) : Bool := decide (t.length ≤ 20) && !t.any (badB nc)
def sizeB (m : Mach) : Bool := decide (m.ws.length ≤ 200) && (decide (m.cs.length ≤ 8) && decide (m.ts.length ≤ 4))
def machB (m : Mach) : Bool := sizeB m && (m.cs.all mayB && m.ts.all (thrB m.cs.length))
def idx (l : List CallD) (p : CallD → Bool) : Int := match l.findIdx? p with | some i => i | none => -1
theorem getG {α : Type} {l : List α} {k : Nat} {d : α} (h : k < l.length) : l.getD k d = l[k] := by simp [List.getD, List.getElem?_eq_getElem h]
theorem idx_found {l : List CallD} {p : CallD → Bool} {k : Nat} (h : k < l.length) (hp : p (l.getD k default) = true) (hn : ∀ j, j < k → p (l.getD j default) = false) : idx l p = k := by
  unfold idx
  have : l.findIdx? p = some k := by
    rw [List.findIdx?_eq_some_iff_getElem]
    refine ⟨h, by rw [← getG h]; exact hp, fun j hj => by have := hn j hj; rw [getG (by omega)] at this; simp [this]⟩
  rw [this]
theorem idx_none {l : List CallD} {p : CallD → Bool} (hn : ∀ j, j < l.length → p (l.getD j default) = false) : idx l p = -1 := by
  unfold idx
  have : l.findIdx? p = none := by
    rw [List.findIdx?_eq_none_iff]
    intro x hx
    obtain ⟨j, hj, rfl⟩ := List.mem_iff_getElem.1 hx
    rw [← getG hj]; exact hn j hj
  rw [this]
theorem idx_any {l : List CallD} {p : CallD → Bool} : decide (idx l p ≥ 0) = l.any p := by
  unfold idx
  cases h : l.findIdx? p with
  | none =>
    rw [List.findIdx?_eq_none_iff] at h
    have : l.any p = false := by rw [List.any_eq_false]; intro x hx; simp [h x hx]
    rw [this]; rfl
  | some i =>
    rw [List.findIdx?_eq_some_iff_getElem] at h
    obtain ⟨hi, hp, _⟩ := h
    have : l.any p = true := by rw [List.any_eq_true]; exact ⟨_, List.getElem_mem hi, hp⟩
    rw [this]; simp
theorem anyG_at {l : List CallD} {p : CallD → Bool} {n : Nat} (h : n < l.length) (hp : p (l.getD n default) = true) : l.any p = true := by
  rw [getG h] at hp
  rw [List.any_eq_true]; exact ⟨_, List.getElem_mem h, hp⟩
theorem anyG_none {l : List CallD} {p : CallD → Bool} (hn : ∀ j, j < l.length → p (l.getD j default) = false) : l.any p = false := by
  rw [List.any_eq_false]
  intro x hx
  obtain ⟨j, hj, rfl⟩ := List.mem_iff_getElem.1 hx
  have := hn j hj; rw [getG hj] at this; simp [this]
theorem allG_not {α : Type} {l : List α} {p : α → Bool} {n : Nat} {d : α} (h : n < l.length) (hp : p (l.getD n d) = false) : l.all p = false := by
  rw [getG h] at hp
  rw [List.all_eq_false]; exact ⟨_, List.getElem_mem h, by rw [hp]; decide⟩
theorem allG_yes {α : Type} {l : List α} {p : α → Bool} {d : α} (hn : ∀ j, j < l.length → p (l.getD j d) = true) : l.all p = true := by
  rw [List.all_eq_true]
  intro x hx
  obtain ⟨j, hj, rfl⟩ := List.mem_iff_getElem.1 hx
  have := hn j hj; rw [getG hj] at this; exact this
theorem mach_size {m : Mach} (h : ¬ (m.ws.length ≤ 200 ∧ m.cs.length ≤ 8 ∧ m.ts.length ≤ 4)) : machB m = false := by
  have : sizeB m = false := by
    cases e : sizeB m with
    | false => rfl
    | true => exfalso; apply h; simp [sizeB] at e; omega
  unfold machB; rw [this]; rfl
theorem mach_code {m : Mach} {n : Nat} (h : n < m.cs.length) (hp : mayB (m.cs.getD n []) = false) : machB m = false := by
  unfold machB; rw [allG_not h hp]; simp
theorem mach_thr {m : Mach} {n : Nat} (h : n < m.ts.length) (hp : thrB m.cs.length (m.ts.getD n []) = false) : machB m = false := by
  unfold machB; rw [allG_not h hp]; simp
theorem mach_yes {m : Mach} (h : m.ws.length ≤ 200 ∧ m.cs.length ≤ 8 ∧ m.ts.length ≤ 4) (h1 : ∀ j, j < m.cs.length → mayB (m.cs.getD j []) = true) (h2 : ∀ j, j < m.ts.length → thrB m.cs.length (m.ts.getD j []) = true) : machB m = true := by
  unfold machB; rw [allG_yes h1, allG_yes h2]; simp [sizeB]; omega
theorem thr_long {nc : Nat} {t : List CallD} (h : 20 < t.length) : thrB nc t = false := by
  unfold thrB; rw [decide_eq_false (by omega)]; rfl
theorem thr_bad {nc : Nat} {t : List CallD} (h : t.any (badB nc) = true) : thrB nc t = false := by unfold thrB; rw [h]; simp
theorem thr_yes {nc : Nat} {t : List CallD} (h : t.length ≤ 20) (h1 : t.any (badB nc) = false) : thrB nc t = true := by unfold thrB; rw [h1]; simp [h]

theorem odd_any (q : Mach) (c : CallD) : Spec Tryd.prog GV 59 [callS c, .ptr 0 0 0] [machBlk q] (fun r ho => r = SV.b (badB q.cs.length c) ∧ ho = [some (machBlk q)]) := by
  refine start 21 1 Tryd.func59 rfl rfl rfl rfl ?_
  refine r1 ?_
  refine s1 2 1 1 rfl rfl rfl rfl rfl rfl trivial ?_
  refine s1 3 9 2 rfl rfl rfl rfl rfl rfl trivial ?_
  refine e1 17 rfl ?_
  refine keep [1, 2] rfl ?_
  refine r1 ?_
  refine s1 4 17 1 rfl rfl rfl rfl rfl rfl trivial ?_
  refine s1 5 25 2 rfl rfl rfl rfl rfl rfl (by first | trivial | omega) ?_
  refine s1 6 33 3 rfl rfl rfl rfl rfl rfl (by first | trivial | omega) ?_
  refine s1 7 41 4 rfl rfl rfl rfl rfl rfl trivial ?_
  refine ask 7 rfl (fun hg1_7 => ?_) (fun hg1_7 => ?_)
  · skip
    try simp only [cs, ne_eq] at hg1_7
    refine g0 3 false 7 8 5 rfl rfl rfl rfl rfl rfl ?_
    refine g0 3 false 7 9 6 rfl rfl rfl rfl rfl rfl ?_
    refine g0 3 false 7 10 7 rfl rfl rfl rfl rfl rfl ?_
    refine g0 3 false 7 11 8 rfl rfl rfl rfl rfl rfl ?_
    refine g0 3 false 7 12 9 rfl rfl rfl rfl rfl rfl ?_
    refine g0 3 false 7 13 10 rfl rfl rfl rfl rfl rfl ?_
    refine s1 14 97 11 rfl rfl rfl rfl rfl rfl trivial ?_
    refine s1 15 105 12 rfl rfl rfl rfl rfl rfl trivial ?_
    refine g0 11 false 15 16 13 rfl rfl rfl rfl rfl rfl ?_
    refine g0 11 false 15 17 14 rfl rfl rfl rfl rfl rfl ?_
    refine g0 11 false 15 18 15 rfl rfl rfl rfl rfl rfl ?_
    refine g0 11 false 15 19 16 rfl rfl rfl rfl rfl rfl ?_
    refine s1 20 145 17 rfl rfl rfl rfl rfl rfl trivial ?_
    refine s1 3 153 18 rfl rfl rfl rfl rfl rfl trivial ?_
    refine e1 161 rfl ?_
    refine keep [3] rfl ?_
    refine W_ret ?_
    exact out1 3 (SV.b (badB q.cs.length c)) (π := [0]) (hout := [some (machBlk q)]) Tryd.results59 rfl (by show SV.b _ = SV.b _; refine congrArg SV.b (Bool.eq_iff_iff.2 ?_); first | (simp [badB, *]; done) | (simp [badB, *]; omega) | (simp [badB] at *; omega)) rfl rfl ⟨rfl, trivial⟩ ⟨rfl, rfl⟩
  try simp only [cs, ne_eq] at hg1_7
  refine g1 3 false 7 8 5 rfl rfl rfl rfl rfl ?_
  refine s1 8 49 5 rfl rfl rfl rfl rfl rfl trivial ?_
  refine g1 3 false 7 9 6 rfl rfl rfl rfl rfl ?_
  refine s1 9 57 6 rfl rfl rfl rfl rfl rfl (by first | trivial | omega) ?_
  refine g1 3 false 7 10 7 rfl rfl rfl rfl rfl ?_
  refine s1 10 65 7 rfl rfl rfl rfl rfl rfl trivial ?_
  refine g1 3 false 7 11 8 rfl rfl rfl rfl rfl ?_
  refine s1 11 73 8 rfl rfl rfl rfl rfl rfl (by first | trivial | omega) ?_
  refine g1 3 false 7 12 9 rfl rfl rfl rfl rfl ?_
  refine s1 12 81 9 rfl rfl rfl rfl rfl rfl (by first | trivial | omega) ?_
  refine g1 3 false 7 13 10 rfl rfl rfl rfl rfl ?_
  refine s1 13 89 10 rfl rfl rfl rfl rfl rfl (by first | trivial | omega) ?_
  refine s1 14 97 11 rfl rfl rfl rfl rfl rfl trivial ?_
  refine s1 15 105 12 rfl rfl rfl rfl rfl rfl trivial ?_
  refine ask 15 rfl (fun hg1_15 => ?_) (fun hg1_15 => ?_)
  · skip
    try simp only [cs, ne_eq] at hg1_15
    refine g0 11 false 15 16 13 rfl rfl rfl rfl rfl rfl ?_
    refine g0 11 false 15 17 14 rfl rfl rfl rfl rfl rfl ?_
    refine g0 11 false 15 18 15 rfl rfl rfl rfl rfl rfl ?_
    refine g0 11 false 15 19 16 rfl rfl rfl rfl rfl rfl ?_
    refine s1 20 145 17 rfl rfl rfl rfl rfl rfl trivial ?_
    refine s1 3 153 18 rfl rfl rfl rfl rfl rfl trivial ?_
    refine e1 161 rfl ?_
    refine keep [3] rfl ?_
    refine W_ret ?_
    exact out1 3 (SV.b (badB q.cs.length c)) (π := [0]) (hout := [some (machBlk q)]) Tryd.results59 rfl (by show SV.b _ = SV.b _; refine congrArg SV.b (Bool.eq_iff_iff.2 ?_); first | (simp [badB, *]; done) | (simp [badB, *]; omega) | (simp [badB] at *; omega)) rfl rfl ⟨rfl, trivial⟩ ⟨rfl, rfl⟩
  try simp only [cs, ne_eq] at hg1_15
  refine g1 11 false 15 16 13 rfl rfl rfl rfl rfl ?_
  refine s1 16 113 13 rfl rfl rfl rfl rfl rfl trivial ?_
  refine g1 11 false 15 17 14 rfl rfl rfl rfl rfl ?_
  refine s1 17 121 14 rfl rfl rfl rfl rfl rfl (by first | trivial | omega) ?_
  refine g1 11 false 15 18 15 rfl rfl rfl rfl rfl ?_
  refine s1 18 129 15 rfl rfl rfl rfl rfl rfl (by first | trivial | omega) ?_
  refine g1 11 false 15 19 16 rfl rfl rfl rfl rfl ?_
  refine s1 19 137 16 rfl rfl rfl rfl rfl rfl (by first | trivial | omega) ?_
  refine s1 20 145 17 rfl rfl rfl rfl rfl rfl trivial ?_
  refine s1 3 153 18 rfl rfl rfl rfl rfl rfl trivial ?_
  refine e1 161 rfl ?_
  refine keep [3] rfl ?_
  refine W_ret ?_
  exact out1 3 (SV.b (badB q.cs.length c)) (π := [0]) (hout := [some (machBlk q)]) Tryd.results59 rfl (by show SV.b _ = SV.b _; refine congrArg SV.b (Bool.eq_iff_iff.2 ?_); first | (simp [badB, *]; done) | (simp [badB, *]; omega) | (simp [badB] at *; omega)) rfl rfl ⟨rfl, trivial⟩ ⟨rfl, rfl⟩

theorem index_any (q : Mach) (l : List CallD) (hl : l.length ≤ 9223372036854775807) : Spec Tryd.prog GV 74 [callV l, .fn 59 [.ptr 0 0 0]] [machBlk q] (fun r ho => r = SV.i (idx l (badB q.cs.length)) ∧ ho = [some (machBlk q)]) := by
  refine start 19 1 Tryd.func74 rfl rfl rfl rfl ?_
  refine r1 ?_
  refine s1 4 1 1 rfl rfl rfl rfl rfl rfl trivial ?_
  refine e1 9 rfl ?_
  refine keep [0, 1] rfl ?_
  refine W_seq ?_
  refine r1 ?_
  refine s1 6 9 1 rfl rfl rfl rfl rfl rfl trivial ?_
  refine s1 7 17 2 rfl rfl rfl rfl rfl rfl (by first | trivial | omega) ?_
  refine s1 8 25 3 rfl rfl rfl rfl rfl rfl trivial ?_
  refine e1 33 rfl ?_
  refine keep [0, 1, 7, 8] rfl ?_
  refine W_block ?_
  refine loop (α := Nat) 1 (fun n => [(0, callV l), (1, .fn 59 [.ptr 0 0 0]), (7, SV.i l.length), (8, SV.i n)]) (fun n => [some (machBlk q)]) (fun n => n ≤ l.length ∧ ∀ j, j < n → badB q.cs.length (l.getD j default) = false) (fun n => l.length - n) (0) [0] (fun _ => rfl) ⟨Nat.zero_le _, fun j hj => by omega⟩ rfl ⟨rfl, rfl, rfl, rfl, trivial⟩ ⟨rfl, trivial⟩ (fun n hx => ?_)
  obtain ⟨hn, hno⟩ := hx
  refine r1 ?_
  refine s1 9 1 1 rfl rfl rfl rfl rfl rfl (by first | trivial | omega) ?_
  refine e1 9 rfl ?_
  refine keep [0, 1, 7, 8, 9] rfl ?_
  refine W_seq ?_
  refine q1 rfl (fun hc2 => ?_) (fun hc2 => ?_)
  · skip
    try simp only [cs, ne_eq] at hc2
    refine W_skip ?_
    refine tn ?_
    refine W_seq ?_
    refine W_block ?_
    refine r1 ?_
    refine s1 10 9 1 rfl rfl rfl rfl rfl rfl trivial ?_
    refine s1 5 17 2 rfl rfl rfl rfl rfl rfl trivial ?_
    refine e1 25 rfl ?_
    refine keep [0, 1, 5, 7, 8] rfl ?_
    refine r1 ?_
    refine s1 11 25 1 rfl rfl rfl rfl rfl rfl trivial ?_
    refine s1 12 33 2 rfl rfl rfl rfl rfl rfl trivial ?_
    refine s1 13 41 3 rfl rfl rfl rfl rfl rfl trivial ?_
    refine s1 14 49 4 rfl rfl rfl rfl rfl rfl (by first | trivial | omega) ?_
    refine s1 15 57 5 rfl rfl rfl rfl rfl rfl (by first | trivial | omega) ?_
    refine c1 (odd_any q (l.getD n default)) [0] [0] 16 65 6 rfl rfl rfl rfl rfl rfl rfl rfl Tryd.func59 rfl rfl rfl rfl ⟨rfl, trivial⟩ rfl rfl ?_
    refine e1 73 rfl ?_
    refine keep [0, 1, 5, 7, 8, 16] rfl ?_
    refine q1 rfl (fun hc4 => ?_) (fun hc4 => ?_)
    · skip
      try simp only [cs, ne_eq] at hc4
      refine r1 ?_
      refine s1 17 73 1 rfl rfl rfl rfl rfl rfl trivial ?_
      refine s1 4 81 2 rfl rfl rfl rfl rfl rfl trivial ?_
      refine e1 89 rfl ?_
      refine keep [4] rfl ?_
      refine W_ret ?_
      refine br ?_
      refine tr ?_
      refine tr ?_
      refine br ?_
      refine tr ?_
      exact out1 4 (SV.i (idx l (badB q.cs.length))) (π := [0]) (hout := [some (machBlk q)]) Tryd.results74 rfl (by rw [idx_found (by omega) hc4 hno]; rfl) rfl rfl ⟨rfl, trivial⟩ ⟨rfl, rfl⟩
    try simp only [cs, ne_eq] at hc4
    refine W_skip ?_
    refine bn ?_
    refine tn ?_
    refine r0 ?_
    refine sA 18 73 1 rfl rfl rfl rfl rfl rfl rfl rfl rfl (by unfold inRange; omega) ?_
    refine s1 8 81 2 rfl rfl rfl rfl rfl rfl trivial ?_
    refine e1 89 rfl ?_
    refine tn ?_
    exact again (n + 1) [0] ⟨by omega, fun j hj => by by_cases e : j = n; (subst e; exact hc4); exact hno j (by omega)⟩ (by omega) rfl ⟨rfl, rfl, rfl, rfl, trivial⟩ ⟨rfl, trivial⟩
  try simp only [cs, ne_eq] at hc2
  refine W_exit ?_
  refine tx ?_
  refine tx ?_
  refine bx ?_
  refine tn ?_
  refine r1 ?_
  refine s1 4 9 1 rfl rfl rfl rfl rfl rfl trivial ?_
  refine e1 17 rfl ?_
  refine keep [4] rfl ?_
  refine W_ret ?_
  exact out1 4 (SV.i (idx l (badB q.cs.length))) (π := [0]) (hout := [some (machBlk q)]) Tryd.results74 rfl (by rw [idx_none (fun j hj => hno j (by omega))]; rfl) rfl rfl ⟨rfl, trivial⟩ ⟨rfl, rfl⟩

theorem contains_any (q : Mach) (l : List CallD) (hl : l.length ≤ 9223372036854775807) : Spec Tryd.prog GV 60 [callV l, .fn 59 [.ptr 0 0 0]] [machBlk q] (fun r ho => r = SV.b (l.any (badB q.cs.length)) ∧ ho = [some (machBlk q)]) := by
  refine start 9 1 Tryd.func60 rfl rfl rfl rfl ?_
  refine r1 ?_
  refine s1 4 1 1 rfl rfl rfl rfl rfl rfl trivial ?_
  refine e1 9 rfl ?_
  refine keep [0, 1] rfl ?_
  refine r1 ?_
  refine s1 5 9 1 rfl rfl rfl rfl rfl rfl trivial ?_
  refine s1 6 17 2 rfl rfl rfl rfl rfl rfl trivial ?_
  refine c1 (index_any q l hl) [0] [0] 7 25 3 rfl rfl rfl rfl rfl rfl rfl rfl Tryd.func74 rfl rfl rfl rfl ⟨rfl, trivial⟩ rfl rfl ?_
  refine s1 8 33 4 rfl rfl rfl rfl rfl rfl (by first | trivial | omega) ?_
  refine s1 4 41 5 rfl rfl rfl rfl rfl rfl trivial ?_
  refine e1 49 rfl ?_
  refine keep [4] rfl ?_
  refine W_ret ?_
  exact out1 4 (SV.b (l.any (badB q.cs.length))) (π := [0]) (hout := [some (machBlk q)]) Tryd.results60 rfl (congrArg SV.b idx_any) rfl rfl ⟨rfl, trivial⟩ ⟨rfl, rfl⟩

theorem mach_any (q : Mach) (hq : q.ok) : Spec Tryd.prog GV 30 [machS q] [] (fun r ho => r = SV.b (machB q) ∧ ho = []) := by
  obtain ⟨hw1, hc1, ht1, hcs, hts⟩ := hq
  refine start 52 0 Tryd.func30 rfl rfl rfl rfl ?_
  refine r1 ?_
  refine s1 1 0 1 rfl rfl rfl rfl rfl rfl trivial ?_
  refine s1 2 8 2 rfl rfl rfl rfl rfl rfl trivial ?_
  refine e1 16 rfl ?_
  refine keep [1] rfl ?_
  refine W_seq ?_
  refine r1 ?_
  refine s1 8 16 1 rfl rfl rfl rfl rfl rfl trivial ?_
  refine s1 9 24 2 rfl rfl rfl rfl rfl rfl (by first | trivial | omega) ?_
  refine s1 10 32 3 rfl rfl rfl rfl rfl rfl (by first | trivial | omega) ?_
  refine s1 11 40 4 rfl rfl rfl rfl rfl rfl (by first | trivial | omega) ?_
  refine s1 12 48 5 rfl rfl rfl rfl rfl rfl trivial ?_
  refine ask 12 rfl (fun hg1_12 => ?_) (fun hg1_12 => ?_)
  · skip
    try simp only [cs, ne_eq] at hg1_12
    refine g0 4 false 12 13 6 rfl rfl rfl rfl rfl rfl ?_
    refine g0 4 false 12 14 7 rfl rfl rfl rfl rfl rfl ?_
    refine g0 4 false 12 15 8 rfl rfl rfl rfl rfl rfl ?_
    refine g0 4 false 12 16 9 rfl rfl rfl rfl rfl rfl ?_
    refine s1 17 88 10 rfl rfl rfl rfl rfl rfl trivial ?_
    refine s1 18 96 11 rfl rfl rfl rfl rfl rfl trivial ?_
    refine g0 10 false 18 19 12 rfl rfl rfl rfl rfl rfl ?_
    refine g0 10 false 18 20 13 rfl rfl rfl rfl rfl rfl ?_
    refine g0 10 false 18 21 14 rfl rfl rfl rfl rfl rfl ?_
    refine g0 10 false 18 22 15 rfl rfl rfl rfl rfl rfl ?_
    refine s1 23 136 16 rfl rfl rfl rfl rfl rfl trivial ?_
    refine e1 144 rfl ?_
    refine keep [1, 23] rfl ?_
    refine q1 rfl (fun hc1 => ?_) (fun hc1 => ?_)
    · skip
      try simp only [cs, ne_eq] at hc1
      refine r1 ?_
      refine s1 2 144 1 rfl rfl rfl rfl rfl rfl trivial ?_
      refine e1 152 rfl ?_
      refine keep [2] rfl ?_
      refine W_ret ?_
      refine tr ?_
      exact out1 2 (SV.b (machB q)) (π := []) (hout := []) Tryd.results30 rfl (by show SV.b _ = SV.b _; refine congrArg SV.b ?_; exact (mach_size (by omega)).symm) rfl rfl trivial ⟨rfl, rfl⟩
    exact absurd hc1 (by decide)
  try simp only [cs, ne_eq] at hg1_12
  refine g1 4 false 12 13 6 rfl rfl rfl rfl rfl ?_
  refine s1 13 56 6 rfl rfl rfl rfl rfl rfl trivial ?_
  refine g1 4 false 12 14 7 rfl rfl rfl rfl rfl ?_
  refine s1 14 64 7 rfl rfl rfl rfl rfl rfl (by first | trivial | omega) ?_
  refine g1 4 false 12 15 8 rfl rfl rfl rfl rfl ?_
  refine s1 15 72 8 rfl rfl rfl rfl rfl rfl (by first | trivial | omega) ?_
  refine g1 4 false 12 16 9 rfl rfl rfl rfl rfl ?_
  refine s1 16 80 9 rfl rfl rfl rfl rfl rfl (by first | trivial | omega) ?_
  refine s1 17 88 10 rfl rfl rfl rfl rfl rfl trivial ?_
  refine s1 18 96 11 rfl rfl rfl rfl rfl rfl trivial ?_
  refine ask 18 rfl (fun hg1_18 => ?_) (fun hg1_18 => ?_)
  · skip
    try simp only [cs, ne_eq] at hg1_18
    refine g0 10 false 18 19 12 rfl rfl rfl rfl rfl rfl ?_
    refine g0 10 false 18 20 13 rfl rfl rfl rfl rfl rfl ?_
    refine g0 10 false 18 21 14 rfl rfl rfl rfl rfl rfl ?_
    refine g0 10 false 18 22 15 rfl rfl rfl rfl rfl rfl ?_
    refine s1 23 136 16 rfl rfl rfl rfl rfl rfl trivial ?_
    refine e1 144 rfl ?_
    refine keep [1, 23] rfl ?_
    refine q1 rfl (fun hc1 => ?_) (fun hc1 => ?_)
    · skip
      try simp only [cs, ne_eq] at hc1
      refine r1 ?_
      refine s1 2 144 1 rfl rfl rfl rfl rfl rfl trivial ?_
      refine e1 152 rfl ?_
      refine keep [2] rfl ?_
      refine W_ret ?_
      refine tr ?_
      exact out1 2 (SV.b (machB q)) (π := []) (hout := []) Tryd.results30 rfl (by show SV.b _ = SV.b _; refine congrArg SV.b ?_; exact (mach_size (by omega)).symm) rfl rfl trivial ⟨rfl, rfl⟩
    exact absurd hc1 (by decide)
  try simp only [cs, ne_eq] at hg1_18
  refine g1 10 false 18 19 12 rfl rfl rfl rfl rfl ?_
  refine s1 19 104 12 rfl rfl rfl rfl rfl rfl trivial ?_
  refine g1 10 false 18 20 13 rfl rfl rfl rfl rfl ?_
  refine s1 20 112 13 rfl rfl rfl rfl rfl rfl (by first | trivial | omega) ?_
  refine g1 10 false 18 21 14 rfl rfl rfl rfl rfl ?_
  refine s1 21 120 14 rfl rfl rfl rfl rfl rfl (by first | trivial | omega) ?_
  refine g1 10 false 18 22 15 rfl rfl rfl rfl rfl ?_
  refine s1 22 128 15 rfl rfl rfl rfl rfl rfl (by first | trivial | omega) ?_
  refine s1 23 136 16 rfl rfl rfl rfl rfl rfl trivial ?_
  refine e1 144 rfl ?_
  refine keep [1, 23] rfl ?_
  refine q1 rfl (fun hc1 => ?_) (fun hc1 => ?_)
  · skip
    try simp only [cs, ne_eq] at hc1
    refine r1 ?_
    refine s1 2 144 1 rfl rfl rfl rfl rfl rfl trivial ?_
    refine e1 152 rfl ?_
    refine keep [2] rfl ?_
    refine W_ret ?_
    refine tr ?_
    exact out1 2 (SV.b (machB q)) (π := []) (hout := []) Tryd.results30 rfl (by show SV.b _ = SV.b _; refine congrArg SV.b ?_; exact (mach_size (by omega)).symm) rfl rfl trivial ⟨rfl, rfl⟩
  try simp only [cs, ne_eq] at hc1
  refine W_skip ?_
  refine tn ?_
  refine W_seq ?_
  refine r1 ?_
  refine s1 24 144 1 rfl rfl rfl rfl rfl rfl trivial ?_
  refine s1 25 152 2 rfl rfl rfl rfl rfl rfl (by first | trivial | omega) ?_
  refine s1 26 160 3 rfl rfl rfl rfl rfl rfl (by first | trivial | omega) ?_
  refine s1 27 168 4 rfl rfl rfl rfl rfl rfl trivial ?_
  refine e1 176 rfl ?_
  refine keep [1, 25, 26, 27] rfl ?_
  refine W_block ?_
  have hsz : q.ws.length ≤ 200 ∧ q.cs.length ≤ 8 ∧ q.ts.length ≤ 4 := (by omega)
  refine loop (α := Nat) 1 (fun n => [(1, .ptr 0 0 0), (25, .d (codesD q.cs)), (26, SV.i q.cs.length), (27, SV.i n)]) (fun n => [some (machBlk q)]) (fun n => n ≤ q.cs.length ∧ ∀ j, j < n → mayB (q.cs.getD j []) = true) (fun n => q.cs.length - n) (0) [0] (fun _ => rfl) ⟨Nat.zero_le _, fun j hj => by omega⟩ rfl ⟨rfl, rfl, rfl, rfl, trivial⟩ ⟨rfl, trivial⟩ (fun n hx => ?_)
  obtain ⟨hn, hno⟩ := hx
  refine r1 ?_
  refine s1 28 1 1 rfl rfl rfl rfl rfl rfl (by first | trivial | omega) ?_
  refine e1 9 rfl ?_
  refine keep [1, 25, 26, 27, 28] rfl ?_
  refine W_seq ?_
  refine q1 rfl (fun hc4 => ?_) (fun hc4 => ?_)
  · skip
    try simp only [cs, ne_eq] at hc4
    refine W_skip ?_
    refine tn ?_
    refine W_seq ?_
    refine W_block ?_
    refine r1 ?_
    refine s1 29 9 1 rfl rfl rfl rfl rfl rfl (by first | trivial | omega) ?_
    refine s1 30 17 2 rfl rfl rfl rfl rfl rfl (by first | trivial | omega) ?_
    refine s1 4 25 3 rfl rfl rfl rfl rfl rfl trivial ?_
    refine e1 33 rfl ?_
    refine keep [1, 4, 25, 26, 27] rfl ?_
    refine r1 ?_
    refine s1 31 33 1 rfl rfl rfl rfl rfl rfl trivial ?_
    refine c1 (may_any (q.cs.getD n []) (hcs n)) [] [] 32 41 2 rfl rfl rfl rfl rfl rfl rfl rfl Tryd.func58 rfl rfl rfl rfl trivial rfl rfl ?_
    refine s1 33 49 3 rfl rfl rfl rfl rfl rfl trivial ?_
    refine e1 57 rfl ?_
    refine keep [1, 25, 26, 27, 33] rfl ?_
    refine q1 rfl (fun hc6 => ?_) (fun hc6 => ?_)
    · skip
      try simp only [cs, ne_eq] at hc6
      refine r1 ?_
      refine s1 2 57 1 rfl rfl rfl rfl rfl rfl trivial ?_
      refine e1 65 rfl ?_
      refine keep [2] rfl ?_
      refine W_ret ?_
      refine br ?_
      refine tr ?_
      refine tr ?_
      refine br ?_
      refine tr ?_
      exact out1 2 (SV.b (machB q)) (π := []) (hout := []) Tryd.results30 rfl (by show SV.b _ = SV.b _; refine congrArg SV.b ?_; exact (mach_code (n := n) (by omega) hc6).symm) rfl rfl trivial ⟨rfl, rfl⟩
    try simp only [cs, ne_eq] at hc6
    refine W_skip ?_
    refine bn ?_
    refine tn ?_
    refine r0 ?_
    refine sA 34 57 1 rfl rfl rfl rfl rfl rfl rfl rfl rfl (by unfold inRange; omega) ?_
    refine s1 27 65 2 rfl rfl rfl rfl rfl rfl trivial ?_
    refine e1 73 rfl ?_
    refine tn ?_
    exact again (n + 1) [0] ⟨by omega, fun j hj => by by_cases e : j = n; (subst e; exact hc6); exact hno j (by omega)⟩ (by omega) rfl ⟨rfl, rfl, rfl, rfl, trivial⟩ ⟨rfl, trivial⟩
  try simp only [cs, ne_eq] at hc4
  refine W_exit ?_
  refine tx ?_
  refine tx ?_
  refine bx ?_
  refine tn ?_
  refine W_seq ?_
  refine r1 ?_
  refine s1 35 9 1 rfl rfl rfl rfl rfl rfl trivial ?_
  refine s1 36 17 2 rfl rfl rfl rfl rfl rfl (by first | trivial | omega) ?_
  refine s1 37 25 3 rfl rfl rfl rfl rfl rfl (by first | trivial | omega) ?_
  refine s1 38 33 4 rfl rfl rfl rfl rfl rfl trivial ?_
  refine e1 41 rfl ?_
  refine keep [1, 36, 37, 38] rfl ?_
  refine W_block ?_
  have hcodes : ∀ j, j < q.cs.length → mayB (q.cs.getD j []) = true := (fun j hj => hno j (by omega))
  clear hno
  refine loop (α := Nat) 1 (fun i => [(1, .ptr 0 0 0), (36, .d (thrD q.ts)), (37, SV.i q.ts.length), (38, SV.i i)]) (fun i => [some (machBlk q)]) (fun i => i ≤ q.ts.length ∧ ∀ j, j < i → thrB q.cs.length (q.ts.getD j []) = true) (fun i => q.ts.length - i) (0) [0] (fun _ => rfl) ⟨Nat.zero_le _, fun j hj => by omega⟩ rfl ⟨rfl, rfl, rfl, rfl, trivial⟩ ⟨rfl, trivial⟩ (fun i hx => ?_)
  obtain ⟨hi, hio⟩ := hx
  refine r1 ?_
  refine s1 39 1 1 rfl rfl rfl rfl rfl rfl (by first | trivial | omega) ?_
  refine e1 9 rfl ?_
  refine keep [1, 36, 37, 38, 39] rfl ?_
  refine W_seq ?_
  refine q1 rfl (fun hc10 => ?_) (fun hc10 => ?_)
  · skip
    try simp only [cs, ne_eq] at hc10
    refine W_skip ?_
    refine tn ?_
    refine W_seq ?_
    refine W_block ?_
    refine r1 ?_
    refine s1 40 9 1 rfl rfl rfl rfl rfl rfl (by first | trivial | omega) ?_
    refine s1 41 17 2 rfl rfl rfl rfl rfl rfl (by first | trivial | omega) ?_
    refine s1 6 25 3 rfl rfl rfl rfl rfl rfl trivial ?_
    refine e1 33 rfl ?_
    refine keep [1, 6, 36, 37, 38] rfl ?_
    refine r1 ?_
    refine s1 42 33 1 rfl rfl rfl rfl rfl rfl trivial ?_
    refine s1 7 41 2 rfl rfl rfl rfl rfl rfl trivial ?_
    refine e1 49 rfl ?_
    refine keep [1, 6, 7, 36, 37, 38] rfl ?_
    refine r1 ?_
    refine s1 43 49 1 rfl rfl rfl rfl rfl rfl trivial ?_
    refine s1 44 57 2 rfl rfl rfl rfl rfl rfl (by first | trivial | omega) ?_
    refine s1 45 65 3 rfl rfl rfl rfl rfl rfl (by first | trivial | omega) ?_
    refine s1 46 73 4 rfl rfl rfl rfl rfl rfl trivial ?_
    refine ask 46 rfl (fun hg13_46 => ?_) (fun hg13_46 => ?_)
    · skip
      try simp only [cs, ne_eq] at hg13_46
      refine g0 3 false 46 47 5 rfl rfl rfl rfl rfl rfl ?_
      refine g0 3 false 46 48 6 rfl rfl rfl rfl rfl rfl ?_
      refine g0 3 false 46 49 7 rfl rfl rfl rfl rfl rfl ?_
      refine s1 50 105 8 rfl rfl rfl rfl rfl rfl trivial ?_
      refine e1 113 rfl ?_
      refine keep [1, 36, 37, 38, 50] rfl ?_
      refine q1 rfl (fun hc13 => ?_) (fun hc13 => ?_)
      · skip
        try simp only [cs, ne_eq] at hc13
        refine r1 ?_
        refine s1 2 113 1 rfl rfl rfl rfl rfl rfl trivial ?_
        refine e1 121 rfl ?_
        refine keep [2] rfl ?_
        refine W_ret ?_
        refine br ?_
        refine tr ?_
        refine tr ?_
        refine br ?_
        refine tr ?_
        exact out1 2 (SV.b (machB q)) (π := []) (hout := []) Tryd.results30 rfl (by show SV.b _ = SV.b _; refine congrArg SV.b ?_; exact (mach_thr (n := i) (by omega) (thr_long (by simp only [Int.toNat_natCast] at *; omega))).symm) rfl rfl trivial ⟨rfl, rfl⟩
      exact absurd hc13 (by decide)
    try simp only [cs, ne_eq] at hg13_46
    refine g1 3 false 46 47 5 rfl rfl rfl rfl rfl ?_
    refine s1 47 81 5 rfl rfl rfl rfl rfl rfl trivial ?_
    refine g1 3 false 46 48 6 rfl rfl rfl rfl rfl ?_
    refine s1 48 89 6 rfl rfl rfl rfl rfl rfl trivial ?_
    refine g1 3 false 46 49 7 rfl rfl rfl rfl rfl ?_
    refine c1 (contains_any q (q.ts.getD i []) (hts i)) [0] [0] 49 97 7 rfl rfl rfl rfl rfl rfl rfl rfl Tryd.func60 rfl rfl rfl rfl ⟨rfl, trivial⟩ rfl rfl ?_
    refine s1 50 105 8 rfl rfl rfl rfl rfl rfl trivial ?_
    refine e1 113 rfl ?_
    refine keep [1, 36, 37, 38, 50] rfl ?_
    refine q1 rfl (fun hc13 => ?_) (fun hc13 => ?_)
    · skip
      try simp only [cs, ne_eq] at hc13
      refine r1 ?_
      refine s1 2 113 1 rfl rfl rfl rfl rfl rfl trivial ?_
      refine e1 121 rfl ?_
      refine keep [2] rfl ?_
      refine W_ret ?_
      refine br ?_
      refine tr ?_
      refine tr ?_
      refine br ?_
      refine tr ?_
      exact out1 2 (SV.b (machB q)) (π := []) (hout := []) Tryd.results30 rfl (by show SV.b _ = SV.b _; refine congrArg SV.b ?_; exact (mach_thr (n := i) (by omega) (thr_bad hc13)).symm) rfl rfl trivial ⟨rfl, rfl⟩
    try simp only [cs, ne_eq] at hc13
    refine W_skip ?_
    refine bn ?_
    refine tn ?_
    refine r0 ?_
    refine sA 51 113 1 rfl rfl rfl rfl rfl rfl rfl rfl rfl (by unfold inRange; omega) ?_
    refine s1 38 121 2 rfl rfl rfl rfl rfl rfl trivial ?_
    refine e1 129 rfl ?_
    refine tn ?_
    exact again (i + 1) [0] ⟨by omega, fun j hj => by by_cases e : j = i; (subst e; exact thr_yes (by simp only [Int.toNat_natCast] at *; omega) hc13); exact hio j (by omega)⟩ (by omega) rfl ⟨rfl, rfl, rfl, rfl, trivial⟩ ⟨rfl, trivial⟩
  try simp only [cs, ne_eq] at hc10
  refine W_exit ?_
  refine tx ?_
  refine tx ?_
  refine bx ?_
  refine tn ?_
  refine r1 ?_
  refine s1 2 9 1 rfl rfl rfl rfl rfl rfl trivial ?_
  refine e1 17 rfl ?_
  refine keep [2] rfl ?_
  refine W_ret ?_
  exact out1 2 (SV.b (machB q)) (π := []) (hout := []) Tryd.results30 rfl (by show SV.b _ = SV.b _; refine congrArg SV.b ?_; exact (mach_yes hsz hcodes (fun j hj => hio j (by omega))).symm) rfl rfl trivial ⟨rfl, rfl⟩



end Go.Proofs.YtnnjobmiepnedaaDoor.Nice

/- A thread's instructions: the plain functions. -/
namespace Go.Proofs.YtnnjobmiepnedaaDoor.Nice
open Go
set_option linter.unusedVariables false
set_option linter.unusedSimpArgs false
set_option maxRecDepth 100000
set_option maxHeartbeats 4000000
def intsV (l : List Int) : SV := .d (.vec 1 l.length (intsF l))
def intsB (l : List Int) : Blk := .rows 3 1 l.length (intsF l)
def wrp (x : Int) : Int := IntKind.i64.wrap x
def setR (r : Nat → Int) (j v : Int) : Nat → Int := fun k => if k = j.toNat then v else r k
structure Thr where
  r : Nat → Int
  pc : Int
  told : List Int
  e : Int
  ov : Bool
def thrX (c : SV) (r : Nat → Int) (pc : Int) (tl : SV) (e : Int) (ov : Bool) : List SV := [c, SV.i (r 0), SV.i (r 1), SV.i (r 2), SV.i (r 3), SV.i (r 4), SV.i (r 5), SV.i (r 6), SV.i (r 7), SV.i (r 8), SV.i (r 9), SV.i (r 10), SV.i (r 11), SV.i (r 12), SV.i (r 13), SV.i (r 14), SV.i (r 15), SV.i (r 16), SV.i (r 17), SV.i (r 18), SV.i (r 19), SV.i (r 20), SV.i (r 21), SV.i (r 22), SV.i (r 23), SV.i pc, tl, SV.i e, SV.b ov]
def thrL (C : List Ins) (t : Thr) : List SV := thrX (insV C) t.r t.pc (.sl 1 0 t.told.length) t.e t.ov
def thrYB (q : Nat) (C : List Ins) (t : Thr) : Blk := .cells 88 29 (thrX (insV C) t.r t.pc (.sl q 0 t.told.length) t.e t.ov)
def thrBlk (C : List Ins) (t : Thr) : Blk := .cells 88 29 (thrL C t)
theorem thrX_get (c : SV) (r : Nat → Int) (pc : Int) (tl : SV) (e : Int) (ov : Bool) {j : Int} (h : 0 ≤ j ∧ j < 24) : (thrX c r pc tl e ov)[0 * 29 + (1 + j.toNat * 1)]? = some (SV.i (r j.toNat)) := by
  obtain ⟨n, rfl⟩ := Int.eq_ofNat_of_zero_le h.1
  have hn : n < 24 := by omega
  rw [Int.toNat_natCast]
  have key : ∀ m, m < 24 → (thrX c r pc tl e ov)[0 * 29 + (1 + m * 1)]? = some (SV.i (r m)) := by
    intro m hm
    match m, hm with
    | 0, _ | 1, _ | 2, _ | 3, _ | 4, _ | 5, _ | 6, _ | 7, _ | 8, _ | 9, _ | 10, _ | 11, _ | 12, _ | 13, _ | 14, _ | 15, _ | 16, _ | 17, _ | 18, _ | 19, _ | 20, _ | 21, _ | 22, _ | 23, _ => rfl
    | m + 24, h => exact absurd h (by omega)
  exact key n hn
theorem thrX_len (c : SV) (r : Nat → Int) (pc : Int) (tl : SV) (e : Int) (ov : Bool) {j : Int} (h : 0 ≤ j ∧ j < 24) : 0 * 29 + (1 + j.toNat * 1) < (thrX c r pc tl e ov).length := by
  show _ < 29
  omega
theorem thrX_set (c : SV) (r : Nat → Int) (pc : Int) (tl : SV) (e : Int) (ov : Bool) {j : Int} (v : Int) (h : 0 ≤ j ∧ j < 24) : (thrX c r pc tl e ov).set (0 * 29 + (1 + j.toNat * 1)) (SV.i v) = thrX c (setR r j v) pc tl e ov := by
  obtain ⟨n, rfl⟩ := Int.eq_ofNat_of_zero_le h.1
  have hn : n < 24 := by omega
  unfold setR
  rw [Int.toNat_natCast]
  have key : ∀ m, m < 24 → (thrX c r pc tl e ov).set (0 * 29 + (1 + m * 1)) (SV.i v) = thrX c (fun k => if k = m then v else r k) pc tl e ov := by
    intro m hm
    match m, hm with
    | 0, _ | 1, _ | 2, _ | 3, _ | 4, _ | 5, _ | 6, _ | 7, _ | 8, _ | 9, _ | 10, _ | 11, _ | 12, _ | 13, _ | 14, _ | 15, _ | 16, _ | 17, _ | 18, _ | 19, _ | 20, _ | 21, _ | 22, _ | 23, _ => rfl
    | m + 24, h => exact absurd h (by omega)
  exact key n hn
theorem ints_set (l : List Int) (n : Nat) (v : Int) (hn : n < l.length) (i c : Nat) (hi : i < l.length) (hc : c < 1) : updR (intsF l) n 0 [.val (.int .i64 v)] i c = intsF (l.set n v) i c := by
  obtain rfl : c = 0 := by omega
  unfold updR intsF
  by_cases h : i = n
  · subst h; simp [List.getD, hi]
  · rw [if_neg (fun e => h e.1)]
    simp [List.getD, Ne.symm h]
theorem ints_cat (l : List Int) (v : Int) (i c : Nat) (hi : i < l.length + 1) (hc : c < 1) : catR (intsF l) l.length (litR 1 [.val (.int .i64 v)]) i c = intsF (l ++ [v]) i c := by
  obtain rfl : c = 0 := by omega
  unfold catR intsF litR
  by_cases h : i < l.length
  · rw [if_pos h]; simp [List.getD, List.getElem?_append_left h]
  · obtain rfl : i = l.length := by omega
    rw [if_neg (Nat.lt_irrefl _)]; simp [List.getD]
/-- What an instruction names. -/
structure Fit (sz : Int) (o : Ins) : Prop where
  k : 1 ≤ o.k ∧ o.k ≤ 17
  a : o.k ≠ 10 → o.k ≠ 17 → 0 ≤ o.a ∧ o.a < 24
  a10 : o.k = 10 → 0 ≤ o.a ∧ o.a ≤ sz
  b : (2 ≤ o.k ∧ o.k ≤ 9) ∨ (13 ≤ o.k ∧ o.k ≤ 15) → 0 ≤ o.b ∧ o.b < 24
  b11 : 11 ≤ o.k ∧ o.k ≤ 12 → 0 ≤ o.b ∧ o.b ≤ sz
  c : 3 ≤ o.k ∧ o.k ≤ 9 → 0 ≤ o.c ∧ o.c < 24
  d : o.k = 15 → 0 ≤ o.d ∧ o.d < 24
theorem fit_of {sz : Int} {o : Ins} (h : okB sz o = true) : Fit sz o := by
  obtain ⟨k, a, b, c, d⟩ := o
  have hk : 1 ≤ k ∧ k ≤ 17 := by
    unfold okB at h; simp at h; exact ⟨h.1.1, h.1.2⟩
  have e : k = 1 ∨ k = 2 ∨ k = 3 ∨ k = 4 ∨ k = 5 ∨ k = 6 ∨ k = 7 ∨ k = 8 ∨ k = 9 ∨ k = 10 ∨ k = 11 ∨ k = 12 ∨ k = 13 ∨ k = 14 ∨ k = 15 ∨ k = 16 ∨ k = 17 := by omega
  unfold okB at h
  rw [Bool.and_eq_true] at h
  have h := h.2
  simp only [Bool.and_eq_true] at h
  obtain ⟨⟨ha, hb⟩, ⟨hc, hd⟩⟩ := h
  rcases e with rfl | rfl | rfl | rfl | rfl | rfl | rfl | rfl | rfl | rfl | rfl | rfl | rfl | rfl | rfl | rfl | rfl
  all_goals
    refine ⟨by constructor <;> simp, ?_, ?_, ?_, ?_, ?_, ?_⟩ <;>
    first
    | (intro h; exact absurd h (by simp only []; decide))
    | (intro h h2; exact absurd h (by simp only []; decide))
    | (intro h h2; exact absurd h2 (by simp only []; decide))
    | (intro _ _; have := ha; unfold fitsB at this; rw [if_pos (by decide)] at this; simp at this; exact this)
    | (intro _; have := ha; unfold fitsB at this; rw [if_neg (by decide), if_pos (by decide)] at this; simp at this; exact this)
    | (intro _; have := hb; unfold fitsB at this; rw [if_pos (by decide)] at this; simp at this; exact this)
    | (intro _; have := hb; unfold fitsB at this; rw [if_neg (by decide), if_pos (by decide)] at this; simp at this; exact this)
    | (intro _; have := hc; unfold fitsB at this; rw [if_pos (by decide)] at this; simp at this; exact this)
    | (intro _; have := hd; unfold fitsB at this; rw [if_pos (by decide)] at this; simp at this; exact this)
theorem fit_at {C : List Ins} (h : mayB C = true) {n : Nat} (hn : n < C.length) : Fit C.length (C.getD n default) := by
  unfold mayB at h
  rw [Bool.and_eq_true, List.all_eq_true] at h
  rw [getD_lt hn]
  exact fit_of (h.2 _ (List.getElem_mem hn))
def boolI (b : Bool) : Int := if b = true then 1 else 0
def quoI (a b : Int) (rest : Bool) : Int := if b = 0 then 0 else if rest = true then a.tmod b else wrp (a.tdiv b)
/-- What kinds 2 to 9 put into a register. -/
def alu (o : Ins) (r : Nat → Int) : Int :=
  if o.k = 1 then o.b else if o.k = 2 then r o.b.toNat else if o.k = 3 then wrp (r o.b.toNat + r o.c.toNat) else if o.k = 4 then wrp (r o.b.toNat - r o.c.toNat) else if o.k = 5 then wrp (r o.b.toNat * r o.c.toNat)
  else if o.k = 6 then quoI (r o.b.toNat) (r o.c.toNat) false else if o.k = 7 then quoI (r o.b.toNat) (r o.c.toNat) true
  else if o.k = 8 then boolI (decide (r o.b.toNat = r o.c.toNat)) else boolI (decide (r o.b.toNat < r o.c.toNat))
def vword (o : Ins) (n : Nat) (ws : List Int) (t : Thr) : Thr × List Int :=
  if o.k = 13 then (⟨setR t.r o.a (ws.getD n 0), t.pc, t.told, t.e, t.ov⟩, ws)
  else if o.k = 14 then (t, ws.set n (t.r o.a.toNat))
  else if o.k = 15 then
    if ws.getD n 0 = t.r o.d.toNat then (⟨setR t.r o.a 1, t.pc, t.told, t.e, t.ov⟩, ws.set n (t.r o.a.toNat)) else (⟨setR t.r o.a 0, t.pc, t.told, t.e, t.ov⟩, ws)
  else (t, ws)
def vother (o : Ins) (ws : List Int) (t : Thr) : Thr × List Int :=
  if o.k = 10 then (⟨t.r, o.a, t.told, t.e, t.ov⟩, ws)
  else if o.k = 11 ∨ o.k = 12 then (if (t.r o.a.toNat ≠ 0 ↔ o.k = 11) then ⟨t.r, o.b, t.told, t.e, t.ov⟩ else t, ws)
  else if o.k = 16 then (if t.told.length = 200 then ⟨t.r, t.pc, t.told, 8, true⟩ else ⟨t.r, t.pc, t.told ++ [t.r o.a.toNat], t.e, t.ov⟩, ws)
  else if o.k = 17 then (⟨t.r, t.pc, t.told, t.e, true⟩, ws)
  else if wrp (t.r o.b.toNat + o.c) < 0 ∨ (ws.length : Int) ≤ wrp (t.r o.b.toNat + o.c) then (⟨t.r, t.pc, t.told, 2, true⟩, ws)
  else vword o (wrp (t.r o.b.toNat + o.c)).toNat ws t
def vexec (o : Ins) (ws : List Int) (t : Thr) : Thr × List Int := if o.k ≤ 9 then (⟨setR t.r o.a (alu o t.r), t.pc, t.told, t.e, t.ov⟩, ws) else vother o ws t
def vend (n : Nat) (p : Thr × List Int) : Thr × List Int := (⟨p.1.r, p.1.pc, p.1.told, p.1.e, p.1.ov || decide (p.1.pc = n)⟩, p.2)
def vstep (C : List Ins) (ws : List Int) (t : Thr) : Thr × List Int :=
  if t.ov = true then (t, ws) else vend C.length (vexec (C.getD t.pc.toNat default) ws ⟨t.r, t.pc + 1, t.told, t.e, t.ov⟩)
def insS (o : Ins) : SV := .agg [SV.i o.k, SV.i o.a, SV.i o.b, SV.i o.c, SV.i o.d]
def insL (o : Ins) : List SV := [SV.i o.k, SV.i o.a, SV.i o.b, SV.i o.c, SV.i o.d]

end Go.Proofs.YtnnjobmiepnedaaDoor.Nice
