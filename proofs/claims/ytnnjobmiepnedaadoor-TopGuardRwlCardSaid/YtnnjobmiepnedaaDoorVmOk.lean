/- Codes that may be: the program's and the document's. -/
import Derived.Test.YtnnjobmiepnedaaDoorProg
import Derived.Test.YtnnjobmiepnedaaDoorNiceN
namespace Go.Proofs.YtnnjobmiepnedaaDoor.Nice
open Go
set_option linter.unusedVariables false
set_option linter.unusedSimpArgs false
set_option maxRecDepth 100000
set_option maxHeartbeats 4000000
def shL : List (List UInt8) := [[], [114, 110, 45, 45], [114, 114, 45, 45], [114, 114, 114, 45], [114, 114, 114, 45], [114, 114, 114, 45], [114, 114, 114, 45], [114, 114, 114, 45], [114, 114, 114, 45], [114, 114, 114, 45], [112, 45, 45, 45], [114, 112, 45, 45], [114, 112, 45, 45], [114, 114, 110, 45], [114, 114, 110, 45], [114, 114, 110, 114], [114, 45, 45, 45], [45, 45, 45, 45]]
def shStr (i : Nat) : ByteArray := ⟨(shL.getD i []).toArray⟩
def shF : Nat → Nat → D := fun i _ => .val (.string (shStr i))
def GV : Nat → SV
  | 0 => .vp 1 18 shF 0 0
  | _ => .any
structure Ins where
  k : Int
  a : Int
  b : Int
  c : Int
  d : Int
  deriving Inhabited
def insC (o : Ins) : Nat → D
  | 0 => .val (.int .i64 o.k)
  | 1 => .val (.int .i64 o.a)
  | 2 => .val (.int .i64 o.b)
  | 3 => .val (.int .i64 o.c)
  | 4 => .val (.int .i64 o.d)
  | _ => .any
def insF (l : List Ins) : Nat → Nat → D := fun i c => insC (l.getD i default) c
def insV (l : List Ins) : SV := .d (.vec 5 l.length (insF l))
def sgn (k : Int) (i : Nat) : Int := ((shStr k.toNat).data.getD i 0).toNat
def fitsB (sg n sz : Int) : Bool := if sg = 114 then decide (0 ≤ n) && decide (n < 24) else if sg = 112 then decide (0 ≤ n) && decide (n ≤ sz) else if sg = 45 then decide (n = 0) else true
def argOf (o : Ins) (i : Nat) : Int := [o.a, o.b, o.c, o.d].getD i 0
def okB (sz : Int) (o : Ins) : Bool := (decide (1 ≤ o.k) && decide (o.k ≤ 17)) && ((fitsB (sgn o.k 0) o.a sz && fitsB (sgn o.k 1) o.b sz) && (fitsB (sgn o.k 2) o.c sz && fitsB (sgn o.k 3) o.d sz))
def mayB (l : List Ins) : Bool := decide (l.length ≤ 200) && l.all (okB l.length)
def regB (n : Int) : Bool := decide (0 ≤ n) && decide (n < 24)
theorem getD_lt {l : List Ins} {k : Nat} (h : k < l.length) : l.getD k default = l[k] := by simp [List.getD, List.getElem?_eq_getElem h]
theorem all_not {l : List Ins} {p : Ins → Bool} {n : Nat} (h : n < l.length) (hp : p (l.getD n default) = false) : l.all p = false := by
  rw [getD_lt h] at hp
  rw [List.all_eq_false]; exact ⟨_, List.getElem_mem h, by rw [hp]; decide⟩
theorem all_yes {l : List Ins} {p : Ins → Bool} (hn : ∀ j, j < l.length → p (l.getD j default) = true) : l.all p = true := by
  rw [List.all_eq_true]
  intro x hx
  obtain ⟨j, hj, rfl⟩ := List.mem_iff_getElem.1 hx
  have := hn j hj; rw [getD_lt hj] at this; exact this
theorem ok_of {sz : Int} {o : Ins} (h1 : 1 ≤ o.k) (h2 : o.k ≤ 17) (h : ∀ j, j < 4 → fitsB (sgn o.k j) (argOf o j) sz = true) : okB sz o = true := by
  unfold okB
  rw [show fitsB (sgn o.k 0) o.a sz = true from h 0 (by omega), show fitsB (sgn o.k 1) o.b sz = true from h 1 (by omega), show fitsB (sgn o.k 2) o.c sz = true from h 2 (by omega), show fitsB (sgn o.k 3) o.d sz = true from h 3 (by omega)]
  simp; omega
theorem ok_not {sz : Int} {o : Ins} {j : Nat} (hj : j < 4) (h : fitsB (sgn o.k j) (argOf o j) sz = false) : okB sz o = false := by
  unfold okB
  match j, hj with
  | 0, _ => rw [show fitsB (sgn o.k 0) o.a sz = false from h]; simp
  | 1, _ => rw [show fitsB (sgn o.k 1) o.b sz = false from h]; simp
  | 2, _ => rw [show fitsB (sgn o.k 2) o.c sz = false from h]; simp
  | 3, _ => rw [show fitsB (sgn o.k 3) o.d sz = false from h]; simp
theorem ok_kind {sz : Int} {o : Ins} (h : o.k < 1 ∨ 17 < o.k) : okB sz o = false := by
  unfold okB
  have : (decide (1 ≤ o.k) && decide (o.k ≤ 17)) = false := by
    rw [Bool.and_eq_false_iff, decide_eq_false_iff_not, decide_eq_false_iff_not]; omega
  rw [this]; rfl
theorem sz_of {k : Int} (h1 : 1 ≤ k) (h2 : k ≤ 17) : (shStr k.toNat).size = 4 := by
  obtain ⟨n, rfl⟩ : ∃ n : Nat, k = n := ⟨k.toNat, by omega⟩
  have hn : 1 ≤ n ∧ n ≤ 17 := by omega
  have key : ∀ m, m < 18 → 1 ≤ m → (shStr m).size = 4 := by decide
  exact key n (by omega) hn.1

theorem fits_any (sg n sz : Int) : Spec Tryd.prog GV 73 [.d (.val (.int .u8 sg)), SV.i n, SV.i sz] [] (fun r ho => r = SV.b (fitsB sg n sz) ∧ ho = []) := by
  refine start 29 0 Tryd.func73 rfl rfl rfl rfl ?_
  refine r1 ?_
  refine s1 6 0 1 rfl rfl rfl rfl rfl rfl trivial ?_
  refine e1 8 rfl ?_
  refine keep [0, 1, 2] rfl ?_
  refine W_seq ?_
  refine r1 ?_
  refine s1 7 8 1 rfl rfl rfl rfl rfl rfl trivial ?_
  refine e1 16 rfl ?_
  refine keep [1, 2, 7] rfl ?_
  refine W_block ?_
  refine r1 ?_
  refine s1 9 16 1 rfl rfl rfl rfl rfl rfl (by first | trivial | omega) ?_
  refine s1 8 24 2 rfl rfl rfl rfl rfl rfl trivial ?_
  refine e1 32 rfl ?_
  refine keep [1, 2, 7, 8] rfl ?_
  refine q1 rfl (fun hc2 => ?_) (fun hc2 => ?_)
  · skip
    try simp only [cs, ne_eq] at hc2
    refine r1 ?_
    refine s1 10 32 1 rfl rfl rfl rfl rfl rfl trivial ?_
    refine s1 11 40 2 rfl rfl rfl rfl rfl rfl (by first | trivial | omega) ?_
    refine s1 12 48 3 rfl rfl rfl rfl rfl rfl trivial ?_
    refine ask 12 rfl (fun hg3_12 => ?_) (fun hg3_12 => ?_)
    · skip
      try simp only [cs, ne_eq] at hg3_12
      refine g1 2 true 12 13 4 rfl rfl rfl rfl rfl ?_
      refine s1 13 56 4 rfl rfl rfl rfl rfl rfl trivial ?_
      refine g1 2 true 12 14 5 rfl rfl rfl rfl rfl ?_
      refine s1 14 64 5 rfl rfl rfl rfl rfl rfl (by first | trivial | omega) ?_
      refine s1 15 72 6 rfl rfl rfl rfl rfl rfl trivial ?_
      refine s1 6 80 7 rfl rfl rfl rfl rfl rfl trivial ?_
      refine e1 88 rfl ?_
      refine keep [6] rfl ?_
      refine W_ret ?_
      refine br ?_
      refine tr ?_
      exact out1 6 (SV.b (fitsB sg n sz)) (π := []) (hout := []) Tryd.results73 rfl (by show SV.b _ = SV.b _; refine congrArg SV.b (Bool.eq_iff_iff.2 ?_); unfold fitsB; (try simp only [*, if_true, if_false]); first | done | (simp [*] at *; done) | (simp [*] at *; omega) | (simp at *; omega) | (simp [*]; done) | (simp [*]; omega)) rfl rfl trivial ⟨rfl, rfl⟩
    · skip
      try simp only [cs, ne_eq] at hg3_12
      refine g0 2 true 12 13 4 rfl rfl rfl rfl rfl rfl ?_
      refine g0 2 true 12 14 5 rfl rfl rfl rfl rfl rfl ?_
      refine s1 15 72 6 rfl rfl rfl rfl rfl rfl trivial ?_
      refine s1 6 80 7 rfl rfl rfl rfl rfl rfl trivial ?_
      refine e1 88 rfl ?_
      refine keep [6] rfl ?_
      refine W_ret ?_
      refine br ?_
      refine tr ?_
      exact out1 6 (SV.b (fitsB sg n sz)) (π := []) (hout := []) Tryd.results73 rfl (by show SV.b _ = SV.b _; refine congrArg SV.b (Bool.eq_iff_iff.2 ?_); unfold fitsB; (try simp only [*, if_true, if_false]); first | done | (simp [*] at *; done) | (simp [*] at *; omega) | (simp at *; omega) | (simp [*]; done) | (simp [*]; omega)) rfl rfl trivial ⟨rfl, rfl⟩
  · skip
    try simp only [cs, ne_eq] at hc2
    refine r1 ?_
    refine s1 17 32 1 rfl rfl rfl rfl rfl rfl (by first | trivial | omega) ?_
    refine s1 16 40 2 rfl rfl rfl rfl rfl rfl trivial ?_
    refine e1 48 rfl ?_
    refine keep [1, 2, 7, 16] rfl ?_
    refine q1 rfl (fun hc4 => ?_) (fun hc4 => ?_)
    · skip
      try simp only [cs, ne_eq] at hc4
      refine r1 ?_
      refine s1 18 48 1 rfl rfl rfl rfl rfl rfl trivial ?_
      refine s1 19 56 2 rfl rfl rfl rfl rfl rfl (by first | trivial | omega) ?_
      refine s1 20 64 3 rfl rfl rfl rfl rfl rfl trivial ?_
      refine ask 20 rfl (fun hg5_20 => ?_) (fun hg5_20 => ?_)
      · skip
        try simp only [cs, ne_eq] at hg5_20
        refine g1 2 true 20 21 4 rfl rfl rfl rfl rfl ?_
        refine s1 21 72 4 rfl rfl rfl rfl rfl rfl trivial ?_
        refine g1 2 true 20 22 5 rfl rfl rfl rfl rfl ?_
        refine s1 22 80 5 rfl rfl rfl rfl rfl rfl trivial ?_
        refine g1 2 true 20 23 6 rfl rfl rfl rfl rfl ?_
        refine s1 23 88 6 rfl rfl rfl rfl rfl rfl (by first | trivial | omega) ?_
        refine s1 24 96 7 rfl rfl rfl rfl rfl rfl trivial ?_
        refine s1 6 104 8 rfl rfl rfl rfl rfl rfl trivial ?_
        refine e1 112 rfl ?_
        refine keep [6] rfl ?_
        refine W_ret ?_
        refine br ?_
        refine tr ?_
        exact out1 6 (SV.b (fitsB sg n sz)) (π := []) (hout := []) Tryd.results73 rfl (by show SV.b _ = SV.b _; refine congrArg SV.b (Bool.eq_iff_iff.2 ?_); unfold fitsB; (try simp only [*, if_true, if_false]); first | done | (simp [*] at *; done) | (simp [*] at *; omega) | (simp at *; omega) | (simp [*]; done) | (simp [*]; omega)) rfl rfl trivial ⟨rfl, rfl⟩
      · skip
        try simp only [cs, ne_eq] at hg5_20
        refine g0 2 true 20 21 4 rfl rfl rfl rfl rfl rfl ?_
        refine g0 2 true 20 22 5 rfl rfl rfl rfl rfl rfl ?_
        refine g0 2 true 20 23 6 rfl rfl rfl rfl rfl rfl ?_
        refine s1 24 96 7 rfl rfl rfl rfl rfl rfl trivial ?_
        refine s1 6 104 8 rfl rfl rfl rfl rfl rfl trivial ?_
        refine e1 112 rfl ?_
        refine keep [6] rfl ?_
        refine W_ret ?_
        refine br ?_
        refine tr ?_
        exact out1 6 (SV.b (fitsB sg n sz)) (π := []) (hout := []) Tryd.results73 rfl (by show SV.b _ = SV.b _; refine congrArg SV.b (Bool.eq_iff_iff.2 ?_); unfold fitsB; (try simp only [*, if_true, if_false]); first | done | (simp [*] at *; done) | (simp [*] at *; omega) | (simp at *; omega) | (simp [*]; done) | (simp [*]; omega)) rfl rfl trivial ⟨rfl, rfl⟩
    · skip
      try simp only [cs, ne_eq] at hc4
      refine r1 ?_
      refine s1 26 48 1 rfl rfl rfl rfl rfl rfl (by first | trivial | omega) ?_
      refine s1 25 56 2 rfl rfl rfl rfl rfl rfl trivial ?_
      refine e1 64 rfl ?_
      refine keep [1, 25] rfl ?_
      refine q1 rfl (fun hc6 => ?_) (fun hc6 => ?_)
      · skip
        try simp only [cs, ne_eq] at hc6
        refine r1 ?_
        refine s1 27 64 1 rfl rfl rfl rfl rfl rfl trivial ?_
        refine s1 28 72 2 rfl rfl rfl rfl rfl rfl (by first | trivial | omega) ?_
        refine s1 6 80 3 rfl rfl rfl rfl rfl rfl trivial ?_
        refine e1 88 rfl ?_
        refine keep [6] rfl ?_
        refine W_ret ?_
        refine br ?_
        refine tr ?_
        exact out1 6 (SV.b (fitsB sg n sz)) (π := []) (hout := []) Tryd.results73 rfl (by show SV.b _ = SV.b _; refine congrArg SV.b (Bool.eq_iff_iff.2 ?_); unfold fitsB; (try simp only [*, if_true, if_false]); first | done | (simp [*] at *; done) | (simp [*] at *; omega) | (simp at *; omega) | (simp [*]; done) | (simp [*]; omega)) rfl rfl trivial ⟨rfl, rfl⟩
      · skip
        try simp only [cs, ne_eq] at hc6
        refine W_skip ?_
        refine bn ?_
        refine tn ?_
        refine r1 ?_
        refine s1 6 64 1 rfl rfl rfl rfl rfl rfl trivial ?_
        refine e1 72 rfl ?_
        refine keep [6] rfl ?_
        refine W_ret ?_
        exact out1 6 (SV.b (fitsB sg n sz)) (π := []) (hout := []) Tryd.results73 rfl (by show SV.b _ = SV.b _; refine congrArg SV.b (Bool.eq_iff_iff.2 ?_); unfold fitsB; (try simp only [*, if_true, if_false]); first | done | (simp [*] at *; done) | (simp [*] at *; omega) | (simp at *; omega) | (simp [*]; done) | (simp [*]; omega)) rfl rfl trivial ⟨rfl, rfl⟩

theorem may_any (l : List Ins) (hl : l.length ≤ 9223372036854775807) : Spec Tryd.prog GV 58 [insV l] [] (fun r ho => r = SV.b (mayB l) ∧ ho = []) := by
  refine start 50 0 Tryd.func58 rfl rfl rfl rfl ?_
  refine r1 ?_
  refine s1 2 0 1 rfl rfl rfl rfl rfl rfl trivial ?_
  refine e1 8 rfl ?_
  refine keep [0] rfl ?_
  refine W_seq ?_
  refine r1 ?_
  refine s1 7 8 1 rfl rfl rfl rfl rfl rfl trivial ?_
  refine s1 8 16 2 rfl rfl rfl rfl rfl rfl (by first | trivial | omega) ?_
  refine s1 9 24 3 rfl rfl rfl rfl rfl rfl trivial ?_
  refine e1 32 rfl ?_
  refine keep [0, 7, 8, 9] rfl ?_
  refine W_block ?_
  refine loop (α := Nat) 0 (fun n => [(0, insV l), (7, insV l), (8, SV.i l.length), (9, SV.i n)]) (fun n => []) (fun n => n ≤ l.length ∧ ∀ j, j < n → okB l.length (l.getD j default) = true) (fun n => l.length - n) (0) [] (fun _ => rfl) ⟨Nat.zero_le _, fun j hj => by omega⟩ rfl ⟨rfl, rfl, rfl, rfl, trivial⟩ trivial (fun n hx => ?_)
  obtain ⟨hn, hno⟩ := hx
  refine r1 ?_
  refine s1 10 0 1 rfl rfl rfl rfl rfl rfl (by first | trivial | omega) ?_
  refine e1 8 rfl ?_
  refine keep [0, 7, 8, 9, 10] rfl ?_
  refine W_seq ?_
  refine q1 rfl (fun hc2 => ?_) (fun hc2 => ?_)
  · skip
    try simp only [cs, ne_eq] at hc2
    refine W_skip ?_
    refine tn ?_
    refine W_seq ?_
    refine W_block ?_
    refine r1 ?_
    refine s1 11 8 1 rfl rfl rfl rfl rfl rfl (by first | trivial | omega) ?_
    refine s1 12 16 2 rfl rfl rfl rfl rfl rfl (by first | trivial | omega) ?_
    refine s1 4 24 3 rfl rfl rfl rfl rfl rfl trivial ?_
    refine s0 32 4 rfl rfl rfl rfl rfl (by first | trivial | omega) ?_
    refine e1 40 rfl ?_
    refine keep [0, 4, 7, 8, 9] rfl ?_
    refine W_seq ?_
    refine r1 ?_
    refine s1 13 40 1 rfl rfl rfl rfl rfl rfl trivial ?_
    refine s1 14 48 2 rfl rfl rfl rfl rfl rfl (by first | trivial | omega) ?_
    refine s1 15 56 3 rfl rfl rfl rfl rfl rfl (by first | trivial | omega) ?_
    refine s1 16 64 4 rfl rfl rfl rfl rfl rfl trivial ?_
    refine ask 16 rfl (fun hg4_16 => ?_) (fun hg4_16 => ?_)
    · skip
      try simp only [cs, ne_eq] at hg4_16
      refine g0 3 false 16 17 5 rfl rfl rfl rfl rfl rfl ?_
      refine g0 3 false 16 18 6 rfl rfl rfl rfl rfl rfl ?_
      refine g0 3 false 16 19 7 rfl rfl rfl rfl rfl rfl ?_
      refine s1 20 96 8 rfl rfl rfl rfl rfl rfl trivial ?_
      refine e1 104 rfl ?_
      refine keep [0, 4, 7, 8, 9, 20] rfl ?_
      refine q1 rfl (fun hc4 => ?_) (fun hc4 => ?_)
      · skip
        try simp only [cs, ne_eq] at hc4
        refine r1 ?_
        refine s1 2 104 1 rfl rfl rfl rfl rfl rfl trivial ?_
        refine e1 112 rfl ?_
        refine keep [2] rfl ?_
        refine W_ret ?_
        refine tr ?_
        refine br ?_
        refine tr ?_
        refine tr ?_
        refine br ?_
        refine tr ?_
        exact out1 2 (SV.b (mayB l)) (π := []) (hout := []) Tryd.results58 rfl (by have hb : okB l.length (l.getD n default) = false := ok_kind (by simp only [Int.toNat_natCast] at *; omega); have := all_not (by omega) hb; show SV.b _ = SV.b _; refine congrArg SV.b ?_; simp [mayB, this]) rfl rfl trivial ⟨rfl, rfl⟩
      · skip
        exact absurd hc4 (by decide)
    · skip
      try simp only [cs, ne_eq] at hg4_16
      refine g1 3 false 16 17 5 rfl rfl rfl rfl rfl ?_
      refine s1 17 72 5 rfl rfl rfl rfl rfl rfl trivial ?_
      refine g1 3 false 16 18 6 rfl rfl rfl rfl rfl ?_
      refine s1 18 80 6 rfl rfl rfl rfl rfl rfl (by first | trivial | omega) ?_
      refine g1 3 false 16 19 7 rfl rfl rfl rfl rfl ?_
      refine s1 19 88 7 rfl rfl rfl rfl rfl rfl (by first | trivial | omega) ?_
      refine s1 20 96 8 rfl rfl rfl rfl rfl rfl trivial ?_
      refine e1 104 rfl ?_
      refine keep [0, 4, 7, 8, 9, 20] rfl ?_
      refine q1 rfl (fun hc4 => ?_) (fun hc4 => ?_)
      · skip
        try simp only [cs, ne_eq] at hc4
        refine r1 ?_
        refine s1 2 104 1 rfl rfl rfl rfl rfl rfl trivial ?_
        refine e1 112 rfl ?_
        refine keep [2] rfl ?_
        refine W_ret ?_
        refine tr ?_
        refine br ?_
        refine tr ?_
        refine tr ?_
        refine br ?_
        refine tr ?_
        exact out1 2 (SV.b (mayB l)) (π := []) (hout := []) Tryd.results58 rfl (by have hb : okB l.length (l.getD n default) = false := ok_kind (by simp only [Int.toNat_natCast] at *; omega); have := all_not (by omega) hb; show SV.b _ = SV.b _; refine congrArg SV.b ?_; simp [mayB, this]) rfl rfl trivial ⟨rfl, rfl⟩
      · skip
        try simp only [cs, ne_eq] at hc4
        refine W_skip ?_
        refine tn ?_
        refine r1 ?_
        refine s1 21 104 1 rfl rfl rfl rfl rfl rfl trivial ?_
        refine s1 22 112 2 rfl rfl rfl rfl rfl rfl (by first | trivial | omega) ?_
        refine s1 23 120 3 rfl rfl rfl rfl rfl rfl trivial ?_
        refine s1 24 128 4 rfl rfl rfl rfl rfl rfl (by first | trivial | omega) ?_
        refine s1 25 136 5 rfl rfl rfl rfl rfl rfl trivial ?_
        refine s1 26 144 6 rfl rfl rfl rfl rfl rfl (by first | trivial | omega) ?_
        refine s1 27 152 7 rfl rfl rfl rfl rfl rfl trivial ?_
        refine s1 28 160 8 rfl rfl rfl rfl rfl rfl (by first | trivial | omega) ?_
        refine s1 29 168 9 rfl rfl rfl rfl rfl rfl trivial ?_
        refine s1 30 176 10 rfl rfl rfl rfl rfl rfl trivial ?_
        refine e1 184 rfl ?_
        refine keep [0, 4, 7, 8, 9, 29, 30] rfl ?_
        refine W_block ?_
        refine loop (α := Nat) 1 (fun i => [(0, insV l), (4, .ptr 0 0 0), (7, insV l), (8, SV.i l.length), (9, SV.i n), (29, .agg [SV.i (l.getD n default).a, SV.i (l.getD n default).b, SV.i (l.getD n default).c, SV.i (l.getD n default).d]), (30, SV.i i)]) (fun i => [some (.cells 64 5 [SV.i (l.getD n default).k, SV.i (l.getD n default).a, SV.i (l.getD n default).b, SV.i (l.getD n default).c, SV.i (l.getD n default).d])]) (fun i => i ≤ 4 ∧ ∀ j, j < i → fitsB (sgn (l.getD n default).k j) (argOf (l.getD n default) j) l.length = true) (fun i => 4 - i) (0) [24] (fun _ => rfl) ⟨Nat.zero_le _, fun j hj => by omega⟩ rfl ⟨rfl, rfl, rfl, rfl, rfl, rfl, rfl, trivial⟩ ⟨rfl, trivial⟩ (fun i hx => ?_)
        obtain ⟨hi4, hni⟩ := hx
        refine r1 ?_
        refine s1 31 1 1 rfl rfl rfl rfl rfl rfl (by first | trivial | omega) ?_
        refine e1 9 rfl ?_
        refine keep [0, 4, 7, 8, 9, 29, 30, 31] rfl ?_
        refine W_seq ?_
        refine q1 rfl (fun hc7 => ?_) (fun hc7 => ?_)
        · skip
          try simp only [cs, ne_eq] at hc7
          refine W_skip ?_
          refine tn ?_
          refine W_seq ?_
          refine W_block ?_
          refine r1 ?_
          refine s1 32 9 1 rfl rfl rfl rfl rfl rfl trivial ?_
          refine s1 33 17 2 rfl rfl rfl rfl rfl rfl (by first | trivial | omega | (simp only [List.length_cons, List.length_nil]; omega)) ?_
          refine s1 5 25 3 rfl rfl rfl rfl rfl rfl trivial ?_
          refine s1 6 33 4 rfl rfl rfl rfl rfl rfl trivial ?_
          refine e1 41 rfl ?_
          refine keep [0, 4, 5, 6, 7, 8, 9, 29, 30] rfl ?_
          refine r1 ?_
          refine s1 34 41 1 rfl rfl rfl rfl rfl rfl trivial ?_
          refine s1 35 49 2 rfl rfl rfl rfl rfl rfl (by first | trivial | omega) ?_
          refine s1 36 57 3 rfl rfl rfl rfl rfl rfl (by simp only [Int.toNat_natCast] at *; omega) ?_
          refine s1 37 65 4 rfl rfl rfl rfl rfl rfl (by simp only [Int.toNat_natCast] at *; omega) ?_
          refine s1 38 73 5 rfl rfl rfl rfl rfl rfl trivial ?_
          refine s1 39 81 6 rfl rfl rfl rfl rfl rfl (by simp only [Int.toNat_natCast, Nat.zero_add] at *; have := sz_of (k := (l.getD n default).k) (by omega) (by omega); omega) ?_
          refine val 39 (.d (.val (.int .u8 (sgn (l.getD n default).k i)))) rfl (by unfold sgn; simp only [Nat.zero_add, Int.toNat_natCast]) ?_
          refine s1 40 89 7 rfl rfl rfl rfl rfl rfl trivial ?_
          refine s1 41 97 8 rfl rfl rfl rfl rfl rfl trivial ?_
          refine s1 42 105 9 rfl rfl rfl rfl rfl rfl (by first | trivial | omega) ?_
          refine c1 (fits_any (sgn (l.getD n default).k i) (argOf (l.getD n default) i) l.length) [] [] 43 113 10 rfl rfl rfl rfl rfl rfl rfl rfl Tryd.func73 rfl rfl rfl rfl trivial rfl rfl ?_
          refine s1 44 121 11 rfl rfl rfl rfl rfl rfl trivial ?_
          refine e1 129 rfl ?_
          refine keep [0, 4, 7, 8, 9, 29, 30, 44] rfl ?_
          refine q1 rfl (fun hc9 => ?_) (fun hc9 => ?_)
          · skip
            try simp only [cs, ne_eq] at hc9
            refine r1 ?_
            refine s1 2 129 1 rfl rfl rfl rfl rfl rfl trivial ?_
            refine e1 137 rfl ?_
            refine keep [2] rfl ?_
            refine W_ret ?_
            refine br ?_
            refine tr ?_
            refine tr ?_
            refine br ?_
            refine br ?_
            refine tr ?_
            refine tr ?_
            refine br ?_
            refine tr ?_
            exact out1 2 (SV.b (mayB l)) (π := []) (hout := []) Tryd.results58 rfl (by have hb : okB l.length (l.getD n default) = false := ok_not (j := i) (by omega) hc9; have := all_not (by omega) hb; show SV.b _ = SV.b _; refine congrArg SV.b ?_; simp [mayB, this]) rfl rfl trivial ⟨rfl, rfl⟩
          · skip
            try simp only [cs, ne_eq] at hc9
            refine W_skip ?_
            refine bn ?_
            refine tn ?_
            refine r0 ?_
            refine sA 45 129 1 rfl rfl rfl rfl rfl rfl rfl rfl rfl (by unfold inRange; omega) ?_
            refine s1 30 137 2 rfl rfl rfl rfl rfl rfl trivial ?_
            refine e1 145 rfl ?_
            refine tn ?_
            exact again (i + 1) [0] ⟨by omega, fun j hj => by by_cases e : j = i; (subst e; exact hc9); exact hni j (by omega)⟩ (by omega) rfl ⟨rfl, rfl, rfl, rfl, rfl, rfl, rfl, trivial⟩ ⟨rfl, trivial⟩
        · skip
          try simp only [cs, ne_eq] at hc7
          refine W_exit ?_
          refine tx ?_
          refine tx ?_
          refine bx ?_
          refine bn ?_
          refine tn ?_
          refine r0 ?_
          refine sA 46 9 1 rfl rfl rfl rfl rfl rfl rfl rfl rfl (by unfold inRange; omega) ?_
          refine s1 9 17 2 rfl rfl rfl rfl rfl rfl trivial ?_
          refine e1 25 rfl ?_
          refine tn ?_
          exact again (n + 1) [] ⟨by omega, fun j hj => by by_cases e : j = n; (subst e; exact ok_of (by simp only [Int.toNat_natCast] at *; omega) (by simp only [Int.toNat_natCast] at *; omega) (fun q hq => hni q (by omega))); exact hno j (by omega)⟩ (by omega) rfl ⟨rfl, rfl, rfl, rfl, trivial⟩ trivial
  · skip
    try simp only [cs, ne_eq] at hc2
    refine W_exit ?_
    refine tx ?_
    refine tx ?_
    refine bx ?_
    refine tn ?_
    refine r1 ?_
    refine s1 47 8 1 rfl rfl rfl rfl rfl rfl trivial ?_
    refine s1 48 16 2 rfl rfl rfl rfl rfl rfl (by first | trivial | omega) ?_
    refine s1 49 24 3 rfl rfl rfl rfl rfl rfl (by first | trivial | omega) ?_
    refine s1 2 32 4 rfl rfl rfl rfl rfl rfl trivial ?_
    refine e1 40 rfl ?_
    refine keep [2] rfl ?_
    refine W_ret ?_
    exact out1 2 (SV.b (mayB l)) (π := []) (hout := []) Tryd.results58 rfl (by have := all_yes (fun j hj => hno j (by omega)); show SV.b _ = SV.b _; refine congrArg SV.b ?_; unfold mayB; rw [this, Bool.and_true]; rw [Bool.eq_iff_iff]; simp; try omega) rfl rfl trivial ⟨rfl, rfl⟩



theorem ok_1 {sz : Int} {o : Ins} (h : o.k = 1) : okB sz o = true ↔ (0 ≤ o.a ∧ o.a < 24) ∧ o.c = 0 ∧ o.d = 0 := by
  unfold okB
  rw [h]
  simp only [show sgn 1 0 = 114 from rfl, show sgn 1 1 = 110 from rfl, show sgn 1 2 = 45 from rfl, show sgn 1 3 = 45 from rfl]
  simp [fitsB]
  try omega

theorem ok_2 {sz : Int} {o : Ins} (h : o.k = 2) : okB sz o = true ↔ (0 ≤ o.a ∧ o.a < 24) ∧ (0 ≤ o.b ∧ o.b < 24) ∧ o.c = 0 ∧ o.d = 0 := by
  unfold okB
  rw [h]
  simp only [show sgn 2 0 = 114 from rfl, show sgn 2 1 = 114 from rfl, show sgn 2 2 = 45 from rfl, show sgn 2 3 = 45 from rfl]
  simp [fitsB]
  try omega

theorem ok_3 {sz : Int} {o : Ins} (h : o.k = 3) : okB sz o = true ↔ (0 ≤ o.a ∧ o.a < 24) ∧ (0 ≤ o.b ∧ o.b < 24) ∧ (0 ≤ o.c ∧ o.c < 24) ∧ o.d = 0 := by
  unfold okB
  rw [h]
  simp only [show sgn 3 0 = 114 from rfl, show sgn 3 1 = 114 from rfl, show sgn 3 2 = 114 from rfl, show sgn 3 3 = 45 from rfl]
  simp [fitsB]
  try omega

theorem ok_4 {sz : Int} {o : Ins} (h : o.k = 4) : okB sz o = true ↔ (0 ≤ o.a ∧ o.a < 24) ∧ (0 ≤ o.b ∧ o.b < 24) ∧ (0 ≤ o.c ∧ o.c < 24) ∧ o.d = 0 := by
  unfold okB
  rw [h]
  simp only [show sgn 4 0 = 114 from rfl, show sgn 4 1 = 114 from rfl, show sgn 4 2 = 114 from rfl, show sgn 4 3 = 45 from rfl]
  simp [fitsB]
  try omega

theorem ok_5 {sz : Int} {o : Ins} (h : o.k = 5) : okB sz o = true ↔ (0 ≤ o.a ∧ o.a < 24) ∧ (0 ≤ o.b ∧ o.b < 24) ∧ (0 ≤ o.c ∧ o.c < 24) ∧ o.d = 0 := by
  unfold okB
  rw [h]
  simp only [show sgn 5 0 = 114 from rfl, show sgn 5 1 = 114 from rfl, show sgn 5 2 = 114 from rfl, show sgn 5 3 = 45 from rfl]
  simp [fitsB]
  try omega

theorem ok_6 {sz : Int} {o : Ins} (h : o.k = 6) : okB sz o = true ↔ (0 ≤ o.a ∧ o.a < 24) ∧ (0 ≤ o.b ∧ o.b < 24) ∧ (0 ≤ o.c ∧ o.c < 24) ∧ o.d = 0 := by
  unfold okB
  rw [h]
  simp only [show sgn 6 0 = 114 from rfl, show sgn 6 1 = 114 from rfl, show sgn 6 2 = 114 from rfl, show sgn 6 3 = 45 from rfl]
  simp [fitsB]
  try omega

theorem ok_7 {sz : Int} {o : Ins} (h : o.k = 7) : okB sz o = true ↔ (0 ≤ o.a ∧ o.a < 24) ∧ (0 ≤ o.b ∧ o.b < 24) ∧ (0 ≤ o.c ∧ o.c < 24) ∧ o.d = 0 := by
  unfold okB
  rw [h]
  simp only [show sgn 7 0 = 114 from rfl, show sgn 7 1 = 114 from rfl, show sgn 7 2 = 114 from rfl, show sgn 7 3 = 45 from rfl]
  simp [fitsB]
  try omega

theorem ok_8 {sz : Int} {o : Ins} (h : o.k = 8) : okB sz o = true ↔ (0 ≤ o.a ∧ o.a < 24) ∧ (0 ≤ o.b ∧ o.b < 24) ∧ (0 ≤ o.c ∧ o.c < 24) ∧ o.d = 0 := by
  unfold okB
  rw [h]
  simp only [show sgn 8 0 = 114 from rfl, show sgn 8 1 = 114 from rfl, show sgn 8 2 = 114 from rfl, show sgn 8 3 = 45 from rfl]
  simp [fitsB]
  try omega

theorem ok_9 {sz : Int} {o : Ins} (h : o.k = 9) : okB sz o = true ↔ (0 ≤ o.a ∧ o.a < 24) ∧ (0 ≤ o.b ∧ o.b < 24) ∧ (0 ≤ o.c ∧ o.c < 24) ∧ o.d = 0 := by
  unfold okB
  rw [h]
  simp only [show sgn 9 0 = 114 from rfl, show sgn 9 1 = 114 from rfl, show sgn 9 2 = 114 from rfl, show sgn 9 3 = 45 from rfl]
  simp [fitsB]
  try omega

theorem ok_10 {sz : Int} {o : Ins} (h : o.k = 10) : okB sz o = true ↔ (0 ≤ o.a ∧ o.a ≤ sz) ∧ o.b = 0 ∧ o.c = 0 ∧ o.d = 0 := by
  unfold okB
  rw [h]
  simp only [show sgn 10 0 = 112 from rfl, show sgn 10 1 = 45 from rfl, show sgn 10 2 = 45 from rfl, show sgn 10 3 = 45 from rfl]
  simp [fitsB]
  try omega

theorem ok_11 {sz : Int} {o : Ins} (h : o.k = 11) : okB sz o = true ↔ (0 ≤ o.a ∧ o.a < 24) ∧ (0 ≤ o.b ∧ o.b ≤ sz) ∧ o.c = 0 ∧ o.d = 0 := by
  unfold okB
  rw [h]
  simp only [show sgn 11 0 = 114 from rfl, show sgn 11 1 = 112 from rfl, show sgn 11 2 = 45 from rfl, show sgn 11 3 = 45 from rfl]
  simp [fitsB]
  try omega

theorem ok_12 {sz : Int} {o : Ins} (h : o.k = 12) : okB sz o = true ↔ (0 ≤ o.a ∧ o.a < 24) ∧ (0 ≤ o.b ∧ o.b ≤ sz) ∧ o.c = 0 ∧ o.d = 0 := by
  unfold okB
  rw [h]
  simp only [show sgn 12 0 = 114 from rfl, show sgn 12 1 = 112 from rfl, show sgn 12 2 = 45 from rfl, show sgn 12 3 = 45 from rfl]
  simp [fitsB]
  try omega

theorem ok_13 {sz : Int} {o : Ins} (h : o.k = 13) : okB sz o = true ↔ (0 ≤ o.a ∧ o.a < 24) ∧ (0 ≤ o.b ∧ o.b < 24) ∧ o.d = 0 := by
  unfold okB
  rw [h]
  simp only [show sgn 13 0 = 114 from rfl, show sgn 13 1 = 114 from rfl, show sgn 13 2 = 110 from rfl, show sgn 13 3 = 45 from rfl]
  simp [fitsB]
  try omega

theorem ok_14 {sz : Int} {o : Ins} (h : o.k = 14) : okB sz o = true ↔ (0 ≤ o.a ∧ o.a < 24) ∧ (0 ≤ o.b ∧ o.b < 24) ∧ o.d = 0 := by
  unfold okB
  rw [h]
  simp only [show sgn 14 0 = 114 from rfl, show sgn 14 1 = 114 from rfl, show sgn 14 2 = 110 from rfl, show sgn 14 3 = 45 from rfl]
  simp [fitsB]
  try omega

theorem ok_15 {sz : Int} {o : Ins} (h : o.k = 15) : okB sz o = true ↔ (0 ≤ o.a ∧ o.a < 24) ∧ (0 ≤ o.b ∧ o.b < 24) ∧ (0 ≤ o.d ∧ o.d < 24) := by
  unfold okB
  rw [h]
  simp only [show sgn 15 0 = 114 from rfl, show sgn 15 1 = 114 from rfl, show sgn 15 2 = 110 from rfl, show sgn 15 3 = 114 from rfl]
  simp [fitsB]
  try omega

theorem ok_16 {sz : Int} {o : Ins} (h : o.k = 16) : okB sz o = true ↔ (0 ≤ o.a ∧ o.a < 24) ∧ o.b = 0 ∧ o.c = 0 ∧ o.d = 0 := by
  unfold okB
  rw [h]
  simp only [show sgn 16 0 = 114 from rfl, show sgn 16 1 = 45 from rfl, show sgn 16 2 = 45 from rfl, show sgn 16 3 = 45 from rfl]
  simp [fitsB]
  try omega

theorem ok_17 {sz : Int} {o : Ins} (h : o.k = 17) : okB sz o = true ↔ o.a = 0 ∧ o.b = 0 ∧ o.c = 0 ∧ o.d = 0 := by
  unfold okB
  rw [h]
  simp only [show sgn 17 0 = 45 from rfl, show sgn 17 1 = 45 from rfl, show sgn 17 2 = 45 from rfl, show sgn 17 3 = 45 from rfl]
  simp [fitsB]
  try omega

end Go.Proofs.YtnnjobmiepnedaaDoor.Nice
