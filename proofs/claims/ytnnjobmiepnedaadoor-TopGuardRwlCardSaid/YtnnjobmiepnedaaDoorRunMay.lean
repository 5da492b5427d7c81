/- Machines that may be: the program's and the document's. -/
import Derived.Test.YtnnjobmiepnedaaDoorVmMay
namespace Go.Proofs.YtnnjobmiepnedaaDoor.Nice
open Go
set_option linter.unusedVariables false
set_option linter.unusedSimpArgs false
set_option maxRecDepth 100000
set_option maxHeartbeats 4000000
def intsF (l : List Int) : Nat → Nat → D := fun i _ => .val (.int .i64 (l.getD i 0))
structure CallD where
  code : Int
  args : List Int
  deriving Inhabited
def callC (c : CallD) : Nat → D
  | 0 => .val (.int .i64 c.code)
  | 1 => .vec 1 c.args.length (intsF c.args)
  | _ => .any
def callF (l : List CallD) : Nat → Nat → D := fun i c => callC (l.getD i default) c
def callV (l : List CallD) : SV := .d (.vec 2 l.length (callF l))
def callS (c : CallD) : SV := .agg [.d (callC c 0), .d (callC c 1)]
structure Mach where
  ws : List Int
  cs : List (List Ins)
  ts : List (List CallD)
def codesD (cs : List (List Ins)) : D := .vec 1 cs.length (fun i _ => .vec 5 (cs.getD i []).length (insF (cs.getD i [])))
def thrD (ts : List (List CallD)) : D := .vec 1 ts.length (fun i _ => .vec 2 (ts.getD i []).length (callF (ts.getD i [])))
def machS (m : Mach) : SV := .agg [.d (.vec 1 m.ws.length (intsF m.ws)), .d (codesD m.cs), .d (thrD m.ts)]
def machBlk (m : Mach) : Blk := .cells 28 3 [.d (.vec 1 m.ws.length (intsF m.ws)), .d (codesD m.cs), .d (thrD m.ts)]
def Mach.ok (m : Mach) : Prop := m.ws.length ≤ 9223372036854775807 ∧ m.cs.length ≤ 9223372036854775807 ∧ m.ts.length ≤ 9223372036854775807 ∧ (∀ n, (m.cs.getD n []).length ≤ 9223372036854775807) ∧ (∀ n, (m.ts.getD n []).length ≤ 9223372036854775807)
def badB (nc : Nat) (c : CallD) : Bool := decide (c.code < 0) || (decide ((nc : Int) ≤ c.code) || decide (8 < c.args.length))
def thrB (nc : Nat) (t : List CallD) : Bool := decide (t.length ≤ 20) && !t.any (badB nc)
def sizeB (m : Mach) : Bool := decide (m.ws.length ≤ 200) && (decide (m.cs.length ≤ 8) && decide (m.ts.length ≤ 4))
def machB (m : Mach) : Bool := sizeB m && (m.cs.all mayB && m.ts.all (thrB m.cs.length))
def idx (l : List CallD) (p : CallD → Bool) : Int := match l.findIdx? p with | some i => i | none => -1
theorem getG {α : Type} {l : List α} {k : Nat} {d : α} (h : k < l.length) : l.getD k d = l[k] := by simp [List.getD, List.getElem?_eq_getElem h]
theorem idx_found {l : List CallD} {p : CallD → Bool} {k : Nat} (h : k < l.length) (hp : p (l.getD k default) = true) (hn : ∀ j, j < k → p (l.getD j default) = false) : idx l p = k := by
  unfold idx
  have : l.findIdx? p = some k := by
    rw [List.findIdx?_eq_some_iff_getElem]
    refine ⟨h, by rw [← getG h]; exact hp, fun j hj => by have := hn j hj; rw [getG (by omega)] at this; simp [this]⟩
  rw [this]
theorem idx_none {l : List CallD} {p : CallD → Bool} (hn : ∀ j, j < l.length → p (l.getD j default) = false) : idx l p = -1 := by
  unfold idx
  have : l.findIdx? p = none := by
    rw [List.findIdx?_eq_none_iff]
    intro x hx
    obtain ⟨j, hj, rfl⟩ := List.mem_iff_getElem.1 hx
    rw [← getG hj]; exact hn j hj
  rw [this]
theorem idx_any {l : List CallD} {p : CallD → Bool} : decide (idx l p ≥ 0) = l.any p := by
  unfold idx
  cases h : l.findIdx? p with
  | none =>
    rw [List.findIdx?_eq_none_iff] at h
    have : l.any p = false := by rw [List.any_eq_false]; intro x hx; simp [h x hx]
    rw [this]; rfl
  | some i =>
    rw [List.findIdx?_eq_some_iff_getElem] at h
    obtain ⟨hi, hp, _⟩ := h
    have : l.any p = true := by rw [List.any_eq_true]; exact ⟨_, List.getElem_mem hi, hp⟩
    rw [this]; simp
theorem anyG_at {l : List CallD} {p : CallD → Bool} {n : Nat} (h : n < l.length) (hp : p (l.getD n default) = true) : l.any p = true := by
  rw [getG h] at hp
  rw [List.any_eq_true]; exact ⟨_, List.getElem_mem h, hp⟩
theorem anyG_none {l : List CallD} {p : CallD → Bool} (hn : ∀ j, j < l.length → p (l.getD j default) = false) : l.any p = false := by
  rw [List.any_eq_false]
  intro x hx
  obtain ⟨j, hj, rfl⟩ := List.mem_iff_getElem.1 hx
  have := hn j hj; rw [getG hj] at this; simp [this]
theorem allG_not {α : Type} {l : List α} {p : α → Bool} {n : Nat} {d : α} (h : n < l.length) (hp : p (l.getD n d) = false) : l.all p = false := by
  rw [getG h] at hp
  rw [List.all_eq_false]; exact ⟨_, List.getElem_mem h, by rw [hp]; decide⟩
theorem allG_yes {α : Type} {l : List α} {p : α → Bool} {d : α} (hn : ∀ j, j < l.length → p (l.getD j d) = true) : l.all p = true := by
  rw [List.all_eq_true]
  intro x hx
  obtain ⟨j, hj, rfl⟩ := List.mem_iff_getElem.1 hx
  have := hn j hj; rw [getG hj] at this; exact this
theorem mach_size {m : Mach} (h : ¬ (m.ws.length ≤ 200 ∧ m.cs.length ≤ 8 ∧ m.ts.length ≤ 4)) : machB m = false := by
  have : sizeB m = false := by
    cases e : sizeB m with
    | false => rfl
    | true => exfalso; apply h; simp [sizeB] at e; omega
  unfold machB; rw [this]; rfl
theorem mach_code {m : Mach} {n : Nat} (h : n < m.cs.length) (hp : mayB (m.cs.getD n []) = false) : machB m = false := by
  unfold machB; rw [allG_not h hp]; simp
theorem mach_thr {m : Mach} {n : Nat} (h : n < m.ts.length) (hp : thrB m.cs.length (m.ts.getD n []) = false) : machB m = false := by
  unfold machB; rw [allG_not h hp]; simp
theorem mach_yes {m : Mach} (h : m.ws.length ≤ 200 ∧ m.cs.length ≤ 8 ∧ m.ts.length ≤ 4) (h1 : ∀ j, j < m.cs.length → mayB (m.cs.getD j []) = true) (h2 : ∀ j, j < m.ts.length → thrB m.cs.length (m.ts.getD j []) = true) : machB m = true := by
  unfold machB; rw [allG_yes h1, allG_yes h2]; simp [sizeB]; omega
theorem thr_long {nc : Nat} {t : List CallD} (h : 20 < t.length) : thrB nc t = false := by
  unfold thrB; rw [decide_eq_false (by omega)]; rfl
theorem thr_bad {nc : Nat} {t : List CallD} (h : t.any (badB nc) = true) : thrB nc t = false := by unfold thrB; rw [h]; simp
theorem thr_yes {nc : Nat} {t : List CallD} (h : t.length ≤ 20) (h1 : t.any (badB nc) = false) : thrB nc t = true := by unfold thrB; rw [h1]; simp [h]

theorem odd_any (q : Mach) (c : CallD) : Spec Tryd.prog GV 59 [callS c, .ptr 0 0 0] [machBlk q] (fun r ho => r = SV.b (badB q.cs.length c) ∧ ho = [some (machBlk q)]) := by
  refine start 21 1 Tryd.func59 rfl rfl rfl rfl ?_
  refine r1 ?_
  refine s1 2 1 1 rfl rfl rfl rfl rfl rfl trivial ?_
  refine s1 3 9 2 rfl rfl rfl rfl rfl rfl trivial ?_
  refine e1 17 rfl ?_
  refine keep [1, 2] rfl ?_
  refine r1 ?_
  refine s1 4 17 1 rfl rfl rfl rfl rfl rfl trivial ?_
  refine s1 5 25 2 rfl rfl rfl rfl rfl rfl (by first | trivial | omega) ?_
  refine s1 6 33 3 rfl rfl rfl rfl rfl rfl (by first | trivial | omega) ?_
  refine s1 7 41 4 rfl rfl rfl rfl rfl rfl trivial ?_
  refine ask 7 rfl (fun hg1_7 => ?_) (fun hg1_7 => ?_)
  · skip
    try simp only [cs, ne_eq] at hg1_7
    refine g0 3 false 7 8 5 rfl rfl rfl rfl rfl rfl ?_
    refine g0 3 false 7 9 6 rfl rfl rfl rfl rfl rfl ?_
    refine g0 3 false 7 10 7 rfl rfl rfl rfl rfl rfl ?_
    refine g0 3 false 7 11 8 rfl rfl rfl rfl rfl rfl ?_
    refine g0 3 false 7 12 9 rfl rfl rfl rfl rfl rfl ?_
    refine g0 3 false 7 13 10 rfl rfl rfl rfl rfl rfl ?_
    refine s1 14 97 11 rfl rfl rfl rfl rfl rfl trivial ?_
    refine s1 15 105 12 rfl rfl rfl rfl rfl rfl trivial ?_
    refine g0 11 false 15 16 13 rfl rfl rfl rfl rfl rfl ?_
    refine g0 11 false 15 17 14 rfl rfl rfl rfl rfl rfl ?_
    refine g0 11 false 15 18 15 rfl rfl rfl rfl rfl rfl ?_
    refine g0 11 false 15 19 16 rfl rfl rfl rfl rfl rfl ?_
    refine s1 20 145 17 rfl rfl rfl rfl rfl rfl trivial ?_
    refine s1 3 153 18 rfl rfl rfl rfl rfl rfl trivial ?_
    refine e1 161 rfl ?_
    refine keep [3] rfl ?_
    refine W_ret ?_
    exact out1 3 (SV.b (badB q.cs.length c)) (π := [0]) (hout := [some (machBlk q)]) Tryd.results59 rfl (by show SV.b _ = SV.b _; refine congrArg SV.b (Bool.eq_iff_iff.2 ?_); first | (simp [badB, *]; done) | (simp [badB, *]; omega) | (simp [badB] at *; omega)) rfl rfl ⟨rfl, trivial⟩ ⟨rfl, rfl⟩
  · skip
    try simp only [cs, ne_eq] at hg1_7
    refine g1 3 false 7 8 5 rfl rfl rfl rfl rfl ?_
    refine s1 8 49 5 rfl rfl rfl rfl rfl rfl trivial ?_
    refine g1 3 false 7 9 6 rfl rfl rfl rfl rfl ?_
    refine s1 9 57 6 rfl rfl rfl rfl rfl rfl (by first | trivial | omega) ?_
    refine g1 3 false 7 10 7 rfl rfl rfl rfl rfl ?_
    refine s1 10 65 7 rfl rfl rfl rfl rfl rfl trivial ?_
    refine g1 3 false 7 11 8 rfl rfl rfl rfl rfl ?_
    refine s1 11 73 8 rfl rfl rfl rfl rfl rfl (by first | trivial | omega) ?_
    refine g1 3 false 7 12 9 rfl rfl rfl rfl rfl ?_
    refine s1 12 81 9 rfl rfl rfl rfl rfl rfl (by first | trivial | omega) ?_
    refine g1 3 false 7 13 10 rfl rfl rfl rfl rfl ?_
    refine s1 13 89 10 rfl rfl rfl rfl rfl rfl (by first | trivial | omega) ?_
    refine s1 14 97 11 rfl rfl rfl rfl rfl rfl trivial ?_
    refine s1 15 105 12 rfl rfl rfl rfl rfl rfl trivial ?_
    refine ask 15 rfl (fun hg1_15 => ?_) (fun hg1_15 => ?_)
    · skip
      try simp only [cs, ne_eq] at hg1_15
      refine g0 11 false 15 16 13 rfl rfl rfl rfl rfl rfl ?_
      refine g0 11 false 15 17 14 rfl rfl rfl rfl rfl rfl ?_
      refine g0 11 false 15 18 15 rfl rfl rfl rfl rfl rfl ?_
      refine g0 11 false 15 19 16 rfl rfl rfl rfl rfl rfl ?_
      refine s1 20 145 17 rfl rfl rfl rfl rfl rfl trivial ?_
      refine s1 3 153 18 rfl rfl rfl rfl rfl rfl trivial ?_
      refine e1 161 rfl ?_
      refine keep [3] rfl ?_
      refine W_ret ?_
      exact out1 3 (SV.b (badB q.cs.length c)) (π := [0]) (hout := [some (machBlk q)]) Tryd.results59 rfl (by show SV.b _ = SV.b _; refine congrArg SV.b (Bool.eq_iff_iff.2 ?_); first | (simp [badB, *]; done) | (simp [badB, *]; omega) | (simp [badB] at *; omega)) rfl rfl ⟨rfl, trivial⟩ ⟨rfl, rfl⟩
    · skip
      try simp only [cs, ne_eq] at hg1_15
      refine g1 11 false 15 16 13 rfl rfl rfl rfl rfl ?_
      refine s1 16 113 13 rfl rfl rfl rfl rfl rfl trivial ?_
      refine g1 11 false 15 17 14 rfl rfl rfl rfl rfl ?_
      refine s1 17 121 14 rfl rfl rfl rfl rfl rfl (by first | trivial | omega) ?_
      refine g1 11 false 15 18 15 rfl rfl rfl rfl rfl ?_
      refine s1 18 129 15 rfl rfl rfl rfl rfl rfl (by first | trivial | omega) ?_
      refine g1 11 false 15 19 16 rfl rfl rfl rfl rfl ?_
      refine s1 19 137 16 rfl rfl rfl rfl rfl rfl (by first | trivial | omega) ?_
      refine s1 20 145 17 rfl rfl rfl rfl rfl rfl trivial ?_
      refine s1 3 153 18 rfl rfl rfl rfl rfl rfl trivial ?_
      refine e1 161 rfl ?_
      refine keep [3] rfl ?_
      refine W_ret ?_
      exact out1 3 (SV.b (badB q.cs.length c)) (π := [0]) (hout := [some (machBlk q)]) Tryd.results59 rfl (by show SV.b _ = SV.b _; refine congrArg SV.b (Bool.eq_iff_iff.2 ?_); first | (simp [badB, *]; done) | (simp [badB, *]; omega) | (simp [badB] at *; omega)) rfl rfl ⟨rfl, trivial⟩ ⟨rfl, rfl⟩

theorem index_any (q : Mach) (l : List CallD) (hl : l.length ≤ 9223372036854775807) : Spec Tryd.prog GV 74 [callV l, .fn 59 [.ptr 0 0 0]] [machBlk q] (fun r ho => r = SV.i (idx l (badB q.cs.length)) ∧ ho = [some (machBlk q)]) := by
  refine start 19 1 Tryd.func74 rfl rfl rfl rfl ?_
  refine r1 ?_
  refine s1 4 1 1 rfl rfl rfl rfl rfl rfl trivial ?_
  refine e1 9 rfl ?_
  refine keep [0, 1] rfl ?_
  refine W_seq ?_
  refine r1 ?_
  refine s1 6 9 1 rfl rfl rfl rfl rfl rfl trivial ?_
  refine s1 7 17 2 rfl rfl rfl rfl rfl rfl (by first | trivial | omega) ?_
  refine s1 8 25 3 rfl rfl rfl rfl rfl rfl trivial ?_
  refine e1 33 rfl ?_
  refine keep [0, 1, 7, 8] rfl ?_
  refine W_block ?_
  refine loop (α := Nat) 1 (fun n => [(0, callV l), (1, .fn 59 [.ptr 0 0 0]), (7, SV.i l.length), (8, SV.i n)]) (fun n => [some (machBlk q)]) (fun n => n ≤ l.length ∧ ∀ j, j < n → badB q.cs.length (l.getD j default) = false) (fun n => l.length - n) (0) [0] (fun _ => rfl) ⟨Nat.zero_le _, fun j hj => by omega⟩ rfl ⟨rfl, rfl, rfl, rfl, trivial⟩ ⟨rfl, trivial⟩ (fun n hx => ?_)
  obtain ⟨hn, hno⟩ := hx
  refine r1 ?_
  refine s1 9 1 1 rfl rfl rfl rfl rfl rfl (by first | trivial | omega) ?_
  refine e1 9 rfl ?_
  refine keep [0, 1, 7, 8, 9] rfl ?_
  refine W_seq ?_
  refine q1 rfl (fun hc2 => ?_) (fun hc2 => ?_)
  · skip
    try simp only [cs, ne_eq] at hc2
    refine W_skip ?_
    refine tn ?_
    refine W_seq ?_
    refine W_block ?_
    refine r1 ?_
    refine s1 10 9 1 rfl rfl rfl rfl rfl rfl trivial ?_
    refine s1 5 17 2 rfl rfl rfl rfl rfl rfl trivial ?_
    refine e1 25 rfl ?_
    refine keep [0, 1, 5, 7, 8] rfl ?_
    refine r1 ?_
    refine s1 11 25 1 rfl rfl rfl rfl rfl rfl trivial ?_
    refine s1 12 33 2 rfl rfl rfl rfl rfl rfl trivial ?_
    refine s1 13 41 3 rfl rfl rfl rfl rfl rfl trivial ?_
    refine s1 14 49 4 rfl rfl rfl rfl rfl rfl (by first | trivial | omega) ?_
    refine s1 15 57 5 rfl rfl rfl rfl rfl rfl (by first | trivial | omega) ?_
    refine c1 (odd_any q (l.getD n default)) [0] [0] 16 65 6 rfl rfl rfl rfl rfl rfl rfl rfl Tryd.func59 rfl rfl rfl rfl ⟨rfl, trivial⟩ rfl rfl ?_
    refine e1 73 rfl ?_
    refine keep [0, 1, 5, 7, 8, 16] rfl ?_
    refine q1 rfl (fun hc4 => ?_) (fun hc4 => ?_)
    · skip
      try simp only [cs, ne_eq] at hc4
      refine r1 ?_
      refine s1 17 73 1 rfl rfl rfl rfl rfl rfl trivial ?_
      refine s1 4 81 2 rfl rfl rfl rfl rfl rfl trivial ?_
      refine e1 89 rfl ?_
      refine keep [4] rfl ?_
      refine W_ret ?_
      refine br ?_
      refine tr ?_
      refine tr ?_
      refine br ?_
      refine tr ?_
      exact out1 4 (SV.i (idx l (badB q.cs.length))) (π := [0]) (hout := [some (machBlk q)]) Tryd.results74 rfl (by rw [idx_found (by omega) hc4 hno]; rfl) rfl rfl ⟨rfl, trivial⟩ ⟨rfl, rfl⟩
    · skip
      try simp only [cs, ne_eq] at hc4
      refine W_skip ?_
      refine bn ?_
      refine tn ?_
      refine r0 ?_
      refine sA 18 73 1 rfl rfl rfl rfl rfl rfl rfl rfl rfl (by unfold inRange; omega) ?_
      refine s1 8 81 2 rfl rfl rfl rfl rfl rfl trivial ?_
      refine e1 89 rfl ?_
      refine tn ?_
      exact again (n + 1) [0] ⟨by omega, fun j hj => by by_cases e : j = n; (subst e; exact hc4); exact hno j (by omega)⟩ (by omega) rfl ⟨rfl, rfl, rfl, rfl, trivial⟩ ⟨rfl, trivial⟩
  · skip
    try simp only [cs, ne_eq] at hc2
    refine W_exit ?_
    refine tx ?_
    refine tx ?_
    refine bx ?_
    refine tn ?_
    refine r1 ?_
    refine s1 4 9 1 rfl rfl rfl rfl rfl rfl trivial ?_
    refine e1 17 rfl ?_
    refine keep [4] rfl ?_
    refine W_ret ?_
    exact out1 4 (SV.i (idx l (badB q.cs.length))) (π := [0]) (hout := [some (machBlk q)]) Tryd.results74 rfl (by rw [idx_none (fun j hj => hno j (by omega))]; rfl) rfl rfl ⟨rfl, trivial⟩ ⟨rfl, rfl⟩

theorem contains_any (q : Mach) (l : List CallD) (hl : l.length ≤ 9223372036854775807) : Spec Tryd.prog GV 60 [callV l, .fn 59 [.ptr 0 0 0]] [machBlk q] (fun r ho => r = SV.b (l.any (badB q.cs.length)) ∧ ho = [some (machBlk q)]) := by
  refine start 9 1 Tryd.func60 rfl rfl rfl rfl ?_
  refine r1 ?_
  refine s1 4 1 1 rfl rfl rfl rfl rfl rfl trivial ?_
  refine e1 9 rfl ?_
  refine keep [0, 1] rfl ?_
  refine r1 ?_
  refine s1 5 9 1 rfl rfl rfl rfl rfl rfl trivial ?_
  refine s1 6 17 2 rfl rfl rfl rfl rfl rfl trivial ?_
  refine c1 (index_any q l hl) [0] [0] 7 25 3 rfl rfl rfl rfl rfl rfl rfl rfl Tryd.func74 rfl rfl rfl rfl ⟨rfl, trivial⟩ rfl rfl ?_
  refine s1 8 33 4 rfl rfl rfl rfl rfl rfl (by first | trivial | omega) ?_
  refine s1 4 41 5 rfl rfl rfl rfl rfl rfl trivial ?_
  refine e1 49 rfl ?_
  refine keep [4] rfl ?_
  refine W_ret ?_
  exact out1 4 (SV.b (l.any (badB q.cs.length))) (π := [0]) (hout := [some (machBlk q)]) Tryd.results60 rfl (congrArg SV.b idx_any) rfl rfl ⟨rfl, trivial⟩ ⟨rfl, rfl⟩

theorem mach_any (q : Mach) (hq : q.ok) : Spec Tryd.prog GV 30 [machS q] [] (fun r ho => r = SV.b (machB q) ∧ ho = []) := by
  obtain ⟨hw1, hc1, ht1, hcs, hts⟩ := hq
  refine start 52 0 Tryd.func30 rfl rfl rfl rfl ?_
  refine r1 ?_
  refine s1 1 0 1 rfl rfl rfl rfl rfl rfl trivial ?_
  refine s1 2 8 2 rfl rfl rfl rfl rfl rfl trivial ?_
  refine e1 16 rfl ?_
  refine keep [1] rfl ?_
  refine W_seq ?_
  refine r1 ?_
  refine s1 8 16 1 rfl rfl rfl rfl rfl rfl trivial ?_
  refine s1 9 24 2 rfl rfl rfl rfl rfl rfl (by first | trivial | omega) ?_
  refine s1 10 32 3 rfl rfl rfl rfl rfl rfl (by first | trivial | omega) ?_
  refine s1 11 40 4 rfl rfl rfl rfl rfl rfl (by first | trivial | omega) ?_
  refine s1 12 48 5 rfl rfl rfl rfl rfl rfl trivial ?_
  refine ask 12 rfl (fun hg1_12 => ?_) (fun hg1_12 => ?_)
  · skip
    try simp only [cs, ne_eq] at hg1_12
    refine g0 4 false 12 13 6 rfl rfl rfl rfl rfl rfl ?_
    refine g0 4 false 12 14 7 rfl rfl rfl rfl rfl rfl ?_
    refine g0 4 false 12 15 8 rfl rfl rfl rfl rfl rfl ?_
    refine g0 4 false 12 16 9 rfl rfl rfl rfl rfl rfl ?_
    refine s1 17 88 10 rfl rfl rfl rfl rfl rfl trivial ?_
    refine s1 18 96 11 rfl rfl rfl rfl rfl rfl trivial ?_
    refine g0 10 false 18 19 12 rfl rfl rfl rfl rfl rfl ?_
    refine g0 10 false 18 20 13 rfl rfl rfl rfl rfl rfl ?_
    refine g0 10 false 18 21 14 rfl rfl rfl rfl rfl rfl ?_
    refine g0 10 false 18 22 15 rfl rfl rfl rfl rfl rfl ?_
    refine s1 23 136 16 rfl rfl rfl rfl rfl rfl trivial ?_
    refine e1 144 rfl ?_
    refine keep [1, 23] rfl ?_
    refine q1 rfl (fun hc1 => ?_) (fun hc1 => ?_)
    · skip
      try simp only [cs, ne_eq] at hc1
      refine r1 ?_
      refine s1 2 144 1 rfl rfl rfl rfl rfl rfl trivial ?_
      refine e1 152 rfl ?_
      refine keep [2] rfl ?_
      refine W_ret ?_
      refine tr ?_
      exact out1 2 (SV.b (machB q)) (π := []) (hout := []) Tryd.results30 rfl (by show SV.b _ = SV.b _; refine congrArg SV.b ?_; exact (mach_size (by omega)).symm) rfl rfl trivial ⟨rfl, rfl⟩
    · skip
      exact absurd hc1 (by decide)
  · skip
    try simp only [cs, ne_eq] at hg1_12
    refine g1 4 false 12 13 6 rfl rfl rfl rfl rfl ?_
    refine s1 13 56 6 rfl rfl rfl rfl rfl rfl trivial ?_
    refine g1 4 false 12 14 7 rfl rfl rfl rfl rfl ?_
    refine s1 14 64 7 rfl rfl rfl rfl rfl rfl (by first | trivial | omega) ?_
    refine g1 4 false 12 15 8 rfl rfl rfl rfl rfl ?_
    refine s1 15 72 8 rfl rfl rfl rfl rfl rfl (by first | trivial | omega) ?_
    refine g1 4 false 12 16 9 rfl rfl rfl rfl rfl ?_
    refine s1 16 80 9 rfl rfl rfl rfl rfl rfl (by first | trivial | omega) ?_
    refine s1 17 88 10 rfl rfl rfl rfl rfl rfl trivial ?_
    refine s1 18 96 11 rfl rfl rfl rfl rfl rfl trivial ?_
    refine ask 18 rfl (fun hg1_18 => ?_) (fun hg1_18 => ?_)
    · skip
      try simp only [cs, ne_eq] at hg1_18
      refine g0 10 false 18 19 12 rfl rfl rfl rfl rfl rfl ?_
      refine g0 10 false 18 20 13 rfl rfl rfl rfl rfl rfl ?_
      refine g0 10 false 18 21 14 rfl rfl rfl rfl rfl rfl ?_
      refine g0 10 false 18 22 15 rfl rfl rfl rfl rfl rfl ?_
      refine s1 23 136 16 rfl rfl rfl rfl rfl rfl trivial ?_
      refine e1 144 rfl ?_
      refine keep [1, 23] rfl ?_
      refine q1 rfl (fun hc1 => ?_) (fun hc1 => ?_)
      · skip
        try simp only [cs, ne_eq] at hc1
        refine r1 ?_
        refine s1 2 144 1 rfl rfl rfl rfl rfl rfl trivial ?_
        refine e1 152 rfl ?_
        refine keep [2] rfl ?_
        refine W_ret ?_
        refine tr ?_
        exact out1 2 (SV.b (machB q)) (π := []) (hout := []) Tryd.results30 rfl (by show SV.b _ = SV.b _; refine congrArg SV.b ?_; exact (mach_size (by omega)).symm) rfl rfl trivial ⟨rfl, rfl⟩
      · skip
        exact absurd hc1 (by decide)
    · skip
      try simp only [cs, ne_eq] at hg1_18
      refine g1 10 false 18 19 12 rfl rfl rfl rfl rfl ?_
      refine s1 19 104 12 rfl rfl rfl rfl rfl rfl trivial ?_
      refine g1 10 false 18 20 13 rfl rfl rfl rfl rfl ?_
      refine s1 20 112 13 rfl rfl rfl rfl rfl rfl (by first | trivial | omega) ?_
      refine g1 10 false 18 21 14 rfl rfl rfl rfl rfl ?_
      refine s1 21 120 14 rfl rfl rfl rfl rfl rfl (by first | trivial | omega) ?_
      refine g1 10 false 18 22 15 rfl rfl rfl rfl rfl ?_
      refine s1 22 128 15 rfl rfl rfl rfl rfl rfl (by first | trivial | omega) ?_
      refine s1 23 136 16 rfl rfl rfl rfl rfl rfl trivial ?_
      refine e1 144 rfl ?_
      refine keep [1, 23] rfl ?_
      refine q1 rfl (fun hc1 => ?_) (fun hc1 => ?_)
      · skip
        try simp only [cs, ne_eq] at hc1
        refine r1 ?_
        refine s1 2 144 1 rfl rfl rfl rfl rfl rfl trivial ?_
        refine e1 152 rfl ?_
        refine keep [2] rfl ?_
        refine W_ret ?_
        refine tr ?_
        exact out1 2 (SV.b (machB q)) (π := []) (hout := []) Tryd.results30 rfl (by show SV.b _ = SV.b _; refine congrArg SV.b ?_; exact (mach_size (by omega)).symm) rfl rfl trivial ⟨rfl, rfl⟩
      · skip
        try simp only [cs, ne_eq] at hc1
        refine W_skip ?_
        refine tn ?_
        refine W_seq ?_
        refine r1 ?_
        refine s1 24 144 1 rfl rfl rfl rfl rfl rfl trivial ?_
        refine s1 25 152 2 rfl rfl rfl rfl rfl rfl (by first | trivial | omega) ?_
        refine s1 26 160 3 rfl rfl rfl rfl rfl rfl (by first | trivial | omega) ?_
        refine s1 27 168 4 rfl rfl rfl rfl rfl rfl trivial ?_
        refine e1 176 rfl ?_
        refine keep [1, 25, 26, 27] rfl ?_
        refine W_block ?_
        have hsz : q.ws.length ≤ 200 ∧ q.cs.length ≤ 8 ∧ q.ts.length ≤ 4 := (by omega)
        refine loop (α := Nat) 1 (fun n => [(1, .ptr 0 0 0), (25, .d (codesD q.cs)), (26, SV.i q.cs.length), (27, SV.i n)]) (fun n => [some (machBlk q)]) (fun n => n ≤ q.cs.length ∧ ∀ j, j < n → mayB (q.cs.getD j []) = true) (fun n => q.cs.length - n) (0) [0] (fun _ => rfl) ⟨Nat.zero_le _, fun j hj => by omega⟩ rfl ⟨rfl, rfl, rfl, rfl, trivial⟩ ⟨rfl, trivial⟩ (fun n hx => ?_)
        obtain ⟨hn, hno⟩ := hx
        refine r1 ?_
        refine s1 28 1 1 rfl rfl rfl rfl rfl rfl (by first | trivial | omega) ?_
        refine e1 9 rfl ?_
        refine keep [1, 25, 26, 27, 28] rfl ?_
        refine W_seq ?_
        refine q1 rfl (fun hc4 => ?_) (fun hc4 => ?_)
        · skip
          try simp only [cs, ne_eq] at hc4
          refine W_skip ?_
          refine tn ?_
          refine W_seq ?_
          refine W_block ?_
          refine r1 ?_
          refine s1 29 9 1 rfl rfl rfl rfl rfl rfl (by first | trivial | omega) ?_
          refine s1 30 17 2 rfl rfl rfl rfl rfl rfl (by first | trivial | omega) ?_
          refine s1 4 25 3 rfl rfl rfl rfl rfl rfl trivial ?_
          refine e1 33 rfl ?_
          refine keep [1, 4, 25, 26, 27] rfl ?_
          refine r1 ?_
          refine s1 31 33 1 rfl rfl rfl rfl rfl rfl trivial ?_
          refine c1 (may_any (q.cs.getD n []) (hcs n)) [] [] 32 41 2 rfl rfl rfl rfl rfl rfl rfl rfl Tryd.func58 rfl rfl rfl rfl trivial rfl rfl ?_
          refine s1 33 49 3 rfl rfl rfl rfl rfl rfl trivial ?_
          refine e1 57 rfl ?_
          refine keep [1, 25, 26, 27, 33] rfl ?_
          refine q1 rfl (fun hc6 => ?_) (fun hc6 => ?_)
          · skip
            try simp only [cs, ne_eq] at hc6
            refine r1 ?_
            refine s1 2 57 1 rfl rfl rfl rfl rfl rfl trivial ?_
            refine e1 65 rfl ?_
            refine keep [2] rfl ?_
            refine W_ret ?_
            refine br ?_
            refine tr ?_
            refine tr ?_
            refine br ?_
            refine tr ?_
            exact out1 2 (SV.b (machB q)) (π := []) (hout := []) Tryd.results30 rfl (by show SV.b _ = SV.b _; refine congrArg SV.b ?_; exact (mach_code (n := n) (by omega) hc6).symm) rfl rfl trivial ⟨rfl, rfl⟩
          · skip
            try simp only [cs, ne_eq] at hc6
            refine W_skip ?_
            refine bn ?_
            refine tn ?_
            refine r0 ?_
            refine sA 34 57 1 rfl rfl rfl rfl rfl rfl rfl rfl rfl (by unfold inRange; omega) ?_
            refine s1 27 65 2 rfl rfl rfl rfl rfl rfl trivial ?_
            refine e1 73 rfl ?_
            refine tn ?_
            exact again (n + 1) [0] ⟨by omega, fun j hj => by by_cases e : j = n; (subst e; exact hc6); exact hno j (by omega)⟩ (by omega) rfl ⟨rfl, rfl, rfl, rfl, trivial⟩ ⟨rfl, trivial⟩
        · skip
          try simp only [cs, ne_eq] at hc4
          refine W_exit ?_
          refine tx ?_
          refine tx ?_
          refine bx ?_
          refine tn ?_
          refine W_seq ?_
          refine r1 ?_
          refine s1 35 9 1 rfl rfl rfl rfl rfl rfl trivial ?_
          refine s1 36 17 2 rfl rfl rfl rfl rfl rfl (by first | trivial | omega) ?_
          refine s1 37 25 3 rfl rfl rfl rfl rfl rfl (by first | trivial | omega) ?_
          refine s1 38 33 4 rfl rfl rfl rfl rfl rfl trivial ?_
          refine e1 41 rfl ?_
          refine keep [1, 36, 37, 38] rfl ?_
          refine W_block ?_
          have hcodes : ∀ j, j < q.cs.length → mayB (q.cs.getD j []) = true := (fun j hj => hno j (by omega))
          clear hno
          refine loop (α := Nat) 1 (fun i => [(1, .ptr 0 0 0), (36, .d (thrD q.ts)), (37, SV.i q.ts.length), (38, SV.i i)]) (fun i => [some (machBlk q)]) (fun i => i ≤ q.ts.length ∧ ∀ j, j < i → thrB q.cs.length (q.ts.getD j []) = true) (fun i => q.ts.length - i) (0) [0] (fun _ => rfl) ⟨Nat.zero_le _, fun j hj => by omega⟩ rfl ⟨rfl, rfl, rfl, rfl, trivial⟩ ⟨rfl, trivial⟩ (fun i hx => ?_)
          obtain ⟨hi, hio⟩ := hx
          refine r1 ?_
          refine s1 39 1 1 rfl rfl rfl rfl rfl rfl (by first | trivial | omega) ?_
          refine e1 9 rfl ?_
          refine keep [1, 36, 37, 38, 39] rfl ?_
          refine W_seq ?_
          refine q1 rfl (fun hc10 => ?_) (fun hc10 => ?_)
          · skip
            try simp only [cs, ne_eq] at hc10
            refine W_skip ?_
            refine tn ?_
            refine W_seq ?_
            refine W_block ?_
            refine r1 ?_
            refine s1 40 9 1 rfl rfl rfl rfl rfl rfl (by first | trivial | omega) ?_
            refine s1 41 17 2 rfl rfl rfl rfl rfl rfl (by first | trivial | omega) ?_
            refine s1 6 25 3 rfl rfl rfl rfl rfl rfl trivial ?_
            refine e1 33 rfl ?_
            refine keep [1, 6, 36, 37, 38] rfl ?_
            refine r1 ?_
            refine s1 42 33 1 rfl rfl rfl rfl rfl rfl trivial ?_
            refine s1 7 41 2 rfl rfl rfl rfl rfl rfl trivial ?_
            refine e1 49 rfl ?_
            refine keep [1, 6, 7, 36, 37, 38] rfl ?_
            refine r1 ?_
            refine s1 43 49 1 rfl rfl rfl rfl rfl rfl trivial ?_
            refine s1 44 57 2 rfl rfl rfl rfl rfl rfl (by first | trivial | omega) ?_
            refine s1 45 65 3 rfl rfl rfl rfl rfl rfl (by first | trivial | omega) ?_
            refine s1 46 73 4 rfl rfl rfl rfl rfl rfl trivial ?_
            refine ask 46 rfl (fun hg13_46 => ?_) (fun hg13_46 => ?_)
            · skip
              try simp only [cs, ne_eq] at hg13_46
              refine g0 3 false 46 47 5 rfl rfl rfl rfl rfl rfl ?_
              refine g0 3 false 46 48 6 rfl rfl rfl rfl rfl rfl ?_
              refine g0 3 false 46 49 7 rfl rfl rfl rfl rfl rfl ?_
              refine s1 50 105 8 rfl rfl rfl rfl rfl rfl trivial ?_
              refine e1 113 rfl ?_
              refine keep [1, 36, 37, 38, 50] rfl ?_
              refine q1 rfl (fun hc13 => ?_) (fun hc13 => ?_)
              · skip
                try simp only [cs, ne_eq] at hc13
                refine r1 ?_
                refine s1 2 113 1 rfl rfl rfl rfl rfl rfl trivial ?_
                refine e1 121 rfl ?_
                refine keep [2] rfl ?_
                refine W_ret ?_
                refine br ?_
                refine tr ?_
                refine tr ?_
                refine br ?_
                refine tr ?_
                exact out1 2 (SV.b (machB q)) (π := []) (hout := []) Tryd.results30 rfl (by show SV.b _ = SV.b _; refine congrArg SV.b ?_; exact (mach_thr (n := i) (by omega) (thr_long (by simp only [Int.toNat_natCast] at *; omega))).symm) rfl rfl trivial ⟨rfl, rfl⟩
              · skip
                exact absurd hc13 (by decide)
            · skip
              try simp only [cs, ne_eq] at hg13_46
              refine g1 3 false 46 47 5 rfl rfl rfl rfl rfl ?_
              refine s1 47 81 5 rfl rfl rfl rfl rfl rfl trivial ?_
              refine g1 3 false 46 48 6 rfl rfl rfl rfl rfl ?_
              refine s1 48 89 6 rfl rfl rfl rfl rfl rfl trivial ?_
              refine g1 3 false 46 49 7 rfl rfl rfl rfl rfl ?_
              refine c1 (contains_any q (q.ts.getD i []) (hts i)) [0] [0] 49 97 7 rfl rfl rfl rfl rfl rfl rfl rfl Tryd.func60 rfl rfl rfl rfl ⟨rfl, trivial⟩ rfl rfl ?_
              refine s1 50 105 8 rfl rfl rfl rfl rfl rfl trivial ?_
              refine e1 113 rfl ?_
              refine keep [1, 36, 37, 38, 50] rfl ?_
              refine q1 rfl (fun hc13 => ?_) (fun hc13 => ?_)
              · skip
                try simp only [cs, ne_eq] at hc13
                refine r1 ?_
                refine s1 2 113 1 rfl rfl rfl rfl rfl rfl trivial ?_
                refine e1 121 rfl ?_
                refine keep [2] rfl ?_
                refine W_ret ?_
                refine br ?_
                refine tr ?_
                refine tr ?_
                refine br ?_
                refine tr ?_
                exact out1 2 (SV.b (machB q)) (π := []) (hout := []) Tryd.results30 rfl (by show SV.b _ = SV.b _; refine congrArg SV.b ?_; exact (mach_thr (n := i) (by omega) (thr_bad hc13)).symm) rfl rfl trivial ⟨rfl, rfl⟩
              · skip
                try simp only [cs, ne_eq] at hc13
                refine W_skip ?_
                refine bn ?_
                refine tn ?_
                refine r0 ?_
                refine sA 51 113 1 rfl rfl rfl rfl rfl rfl rfl rfl rfl (by unfold inRange; omega) ?_
                refine s1 38 121 2 rfl rfl rfl rfl rfl rfl trivial ?_
                refine e1 129 rfl ?_
                refine tn ?_
                exact again (i + 1) [0] ⟨by omega, fun j hj => by by_cases e : j = i; (subst e; exact thr_yes (by simp only [Int.toNat_natCast] at *; omega) hc13); exact hio j (by omega)⟩ (by omega) rfl ⟨rfl, rfl, rfl, rfl, trivial⟩ ⟨rfl, trivial⟩
          · skip
            try simp only [cs, ne_eq] at hc10
            refine W_exit ?_
            refine tx ?_
            refine tx ?_
            refine bx ?_
            refine tn ?_
            refine r1 ?_
            refine s1 2 9 1 rfl rfl rfl rfl rfl rfl trivial ?_
            refine e1 17 rfl ?_
            refine keep [2] rfl ?_
            refine W_ret ?_
            exact out1 2 (SV.b (machB q)) (π := []) (hout := []) Tryd.results30 rfl (by show SV.b _ = SV.b _; refine congrArg SV.b ?_; exact (mach_yes hsz hcodes (fun j hj => hio j (by omega))).symm) rfl rfl trivial ⟨rfl, rfl⟩



end Go.Proofs.YtnnjobmiepnedaaDoor.Nice
