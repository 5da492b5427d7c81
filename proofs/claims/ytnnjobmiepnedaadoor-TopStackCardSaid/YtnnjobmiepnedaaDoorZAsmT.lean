/- Codes put together: what the methods of package asm do to a builder. -/
import Derived.Test.YtnnjobmiepnedaaDoorZMVm
import Derived.Test.YtnnjobmiepnedaaDoorNiceS
import Derived.Test.YtnnjobmiepnedaaDoorNiceO
namespace Go.Proofs.YtnnjobmiepnedaaDoor.Nice
open Go
set_option linter.unusedVariables false
set_option linter.unusedSimpArgs false
set_option maxRecDepth 100000
set_option maxHeartbeats 4000000

def strsF (l : List ByteArray) : Nat → Nat → D := fun i _ => .val (.string (l.getD i default))
def look : List (ByteArray × Int) → ByteArray → Option Int
  | [], _ => none
  | p :: r, s => if s == p.1 then some p.2 else look r s
def putE : List (ByteArray × Int) → ByteArray → Int → List (ByteArray × Int)
  | [], s, n => [(s, n)]
  | p :: r, s, n => if s == p.1 then (s, n) :: r else p :: putE r s n
def mapE (l : List (ByteArray × Int)) : List (Value × D) := l.map fun p => (.string p.1, .val (.int .i64 p.2))
theorem mfind_mapE (s : ByteArray) : ∀ l, mfind .string (.string s) (mapE l) = some ((look l s).map fun n => .val (.int .i64 n))
  | [] => rfl
  | p :: r => by
    simp only [mapE, List.map_cons, mfind, Instr.sameNow, look]
    cases h : s == p.1 with
    | true => simp
    | false => simpa [mapE] using mfind_mapE s r
theorem mset_mapE (s : ByteArray) (n : Int) : ∀ l, mset .string (.string s) (.val (.int .i64 n)) (mapE l) = mapE (putE l s n)
  | [] => rfl
  | p :: r => by
    simp only [mapE, List.map_cons, mset, Instr.sameNow, putE]
    cases h : s == p.1 with
    | true => simp
    | false => simpa [mapE] using mset_mapE s n r
theorem mapE_length (l : List (ByteArray × Int)) : (mapE l).length = l.length := by simp [mapE]
def gotoF (l : List (Int × ByteArray)) : Nat → Nat → D := fun i c => match c with | 0 => .val (.int .i64 (l.getD i default).1) | 1 => .val (.string (l.getD i default).2) | _ => .any
structure Bld where
  ops : List Ins
  places : List (ByteArray × Int)
  gotos : List (Int × ByteArray)
  regs : List (ByteArray × Int)
namespace Bld
def regN (B : Bld) (s : ByteArray) : Int := (look B.regs s).getD B.regs.length
def reg (B : Bld) (s : ByteArray) : Bld := match look B.regs s with | some _ => B | none => { B with regs := putE B.regs s B.regs.length }
def push (B : Bld) (o : Ins) : Bld := { B with ops := B.ops ++ [o] }
def go (B : Bld) (p : ByteArray) : Bld := { B with gotos := B.gotos ++ [((B.ops.length : Int), p)] }
def set (B : Bld) (r : ByteArray) (n : Int) : Bld := (B.reg r).push ⟨1, B.regN r, n, 0, 0⟩
def doo (B : Bld) (k : Int) (r a b : ByteArray) : Bld := (((B.reg r).reg a).reg b).push ⟨k, B.regN r, (B.reg r).regN a, ((B.reg r).reg a).regN b, 0⟩
def copy (B : Bld) (r a : ByteArray) : Bld := ((B.reg r).reg a).push ⟨2, B.regN r, (B.reg r).regN a, 0, 0⟩
def word (B : Bld) (k : Int) (r a : ByteArray) (n : Int) : Bld := ((B.reg r).reg a).push ⟨k, B.regN r, (B.reg r).regN a, n, 0⟩
def cas (B : Bld) (r a : ByteArray) (n : Int) (o : ByteArray) : Bld := (((B.reg r).reg a).reg o).push ⟨15, B.regN r, (B.reg r).regN a, n, ((B.reg r).reg a).regN o⟩
def mark (B : Bld) (p : ByteArray) : Bld := { B with places := putE B.places p B.ops.length }
def jmp (B : Bld) (p : ByteArray) : Bld := (B.go p).push ⟨10, 0, 0, 0, 0⟩
def iff (B : Bld) (k : Int) (r p : ByteArray) : Bld := ((B.go p).reg r).push ⟨k, (B.go p).regN r, 0, 0, 0⟩
def tell (B : Bld) (r : ByteArray) : Bld := (B.reg r).push ⟨16, B.regN r, 0, 0, 0⟩
def done (B : Bld) : Bld := B.push ⟨17, 0, 0, 0, 0⟩
def ok (B : Bld) (n : Nat) : Prop := B.ops.length ≤ n ∧ B.gotos.length ≤ n ∧ ∀ g ∈ B.gotos, 0 ≤ g.1 ∧ g.1 < B.ops.length
end Bld
open Bld
def mk (l : List ByteArray) : Bld := l.foldl Bld.reg ⟨[], [], [], []⟩
theorem reg_ops (B : Bld) (s : ByteArray) : (B.reg s).ops = B.ops := by unfold Bld.reg; split <;> rfl
theorem reg_gotos (B : Bld) (s : ByteArray) : (B.reg s).gotos = B.gotos := by unfold Bld.reg; split <;> rfl
theorem reg_places (B : Bld) (s : ByteArray) : (B.reg s).places = B.places := by unfold Bld.reg; split <;> rfl
theorem push_len (B : Bld) (o : Ins) : (B.push o).ops.length = B.ops.length + 1 := by simp [Bld.push]
theorem go_len (B : Bld) (p : ByteArray) : (B.go p).gotos.length = B.gotos.length + 1 := by simp [Bld.go]
theorem ok_up {B : Bld} {n m : Nat} (h : B.ok n) (hm : n ≤ m) : B.ok m := ⟨Nat.le_trans h.1 hm, Nat.le_trans h.2.1 hm, h.2.2⟩
theorem ok_reg {B : Bld} {s : ByteArray} {n : Nat} (h : B.ok n) : (B.reg s).ok n := by unfold Bld.ok; rw [reg_ops, reg_gotos]; exact h
theorem ok_push {B : Bld} {o : Ins} {n : Nat} (h : B.ok n) : (B.push o).ok (n + 1) := by
  obtain ⟨h1, h2, h3⟩ := h
  refine ⟨by rw [push_len]; omega, Nat.le_succ_of_le h2, fun g hg => ?_⟩
  have := h3 g hg
  rw [push_len]; omega
theorem ok_gopush {B : Bld} {o : Ins} {p s : ByteArray} {n : Nat} (h : B.ok n) : ((B.go p).push o).ok (n + 1) := by
  obtain ⟨h1, h2, h3⟩ := h
  refine ⟨by rw [push_len]; show B.ops.length + 1 ≤ _; omega, by show (B.gotos ++ [_]).length ≤ _; simp; omega, fun g hg => ?_⟩
  rw [push_len]
  show 0 ≤ g.1 ∧ g.1 < ((B.ops.length + 1 : Nat) : Int)
  rcases List.mem_append.1 hg with hg | hg
  · have := h3 g hg; omega
  · obtain rfl := List.mem_singleton.1 hg; exact ⟨by show (0 : Int) ≤ B.ops.length; omega, by show (B.ops.length : Int) < _; omega⟩
theorem ok_set {B : Bld} {n : Nat} (r : ByteArray) (m : Int) (h : B.ok n) : (B.set r m).ok (n + 1) := ok_push (ok_reg h)
theorem ok_doo {B : Bld} {n : Nat} (k : Int) (r a b : ByteArray) (h : B.ok n) : (B.doo k r a b).ok (n + 1) := ok_push (ok_reg (ok_reg (ok_reg h)))
theorem ok_copy {B : Bld} {n : Nat} (r a : ByteArray) (h : B.ok n) : (B.copy r a).ok (n + 1) := ok_push (ok_reg (ok_reg h))
theorem ok_word {B : Bld} {n : Nat} (k : Int) (r a : ByteArray) (m : Int) (h : B.ok n) : (B.word k r a m).ok (n + 1) := ok_push (ok_reg (ok_reg h))
theorem ok_cas {B : Bld} {n : Nat} (r a : ByteArray) (m : Int) (o : ByteArray) (h : B.ok n) : (B.cas r a m o).ok (n + 1) := ok_push (ok_reg (ok_reg (ok_reg h)))
theorem ok_mark {B : Bld} {n : Nat} (p : ByteArray) (h : B.ok n) : (B.mark p).ok n := h
theorem ok_jmp {B : Bld} {n : Nat} (p : ByteArray) (h : B.ok n) : (B.jmp p).ok (n + 1) := ok_gopush (s := p) h
theorem ok_iff {B : Bld} {n : Nat} (k : Int) (r p : ByteArray) (h : B.ok n) : (B.iff k r p).ok (n + 1) := by
  have := ok_gopush (o := ⟨k, (B.go p).regN r, 0, 0, 0⟩) (p := p) (s := p) h
  unfold Bld.iff Bld.ok Bld.push
  show (((B.go p).reg r).ops ++ _).length ≤ _ ∧ ((B.go p).reg r).gotos.length ≤ _ ∧ ∀ g ∈ ((B.go p).reg r).gotos, 0 ≤ g.1 ∧ g.1 < ((((B.go p).reg r).ops ++ _).length : Int)
  rw [reg_ops, reg_gotos]; exact this
theorem ok_tell {B : Bld} {n : Nat} (r : ByteArray) (h : B.ok n) : (B.tell r).ok (n + 1) := ok_push (ok_reg h)
theorem ok_done {B : Bld} {n : Nat} (h : B.ok n) : B.done.ok (n + 1) := ok_push h
theorem mk_ops (l : List ByteArray) : (mk l).ops = [] ∧ (mk l).gotos = [] ∧ (mk l).places = [] := by
  have : ∀ (l : List ByteArray) (B : Bld), (l.foldl Bld.reg B).ops = B.ops ∧ (l.foldl Bld.reg B).gotos = B.gotos ∧ (l.foldl Bld.reg B).places = B.places := by
    intro l
    induction l with
    | nil => intro B; exact ⟨rfl, rfl, rfl⟩
    | cons a l ih => intro B; obtain ⟨h1, h2, h3⟩ := ih (B.reg a); simp only [List.foldl_cons]; rw [h1, h2, h3, reg_ops, reg_gotos, reg_places]; exact ⟨rfl, rfl, rfl⟩
  exact this l _
theorem ok_mk (l : List ByteArray) : (mk l).ok 0 := by
  obtain ⟨h1, h2, _⟩ := mk_ops l
  unfold Bld.ok; rw [h1, h2]; exact ⟨Nat.le_refl _, Nat.le_refl _, fun g hg => by cases hg⟩
theorem cat_push {l : List Ins} {o : Ins} (i c : Nat) (hi : i < l.length + 1) (hc : c < 5) : catR (insF l) l.length (litR 5 [.val (.int .i64 o.k), .val (.int .i64 o.a), .val (.int .i64 o.b), .val (.int .i64 o.c), .val (.int .i64 o.d)]) i c = insF (l ++ [o]) i c := by
  unfold catR insF
  by_cases h : i < l.length
  · rw [if_pos h]; simp [List.getD, List.getElem?_append_left h]
  · obtain rfl : i = l.length := by omega
    rw [if_neg (Nat.lt_irrefl _)]
    have : (l ++ [o]).getD l.length default = o := by simp [List.getD]
    rw [this, Nat.sub_self]
    match c, hc with
    | 0, _ => rfl
    | 1, _ => rfl
    | 2, _ => rfl
    | 3, _ => rfl
    | 4, _ => rfl
theorem cat_goto {l : List (Int × ByteArray)} {g : Int × ByteArray} (i c : Nat) (hi : i < l.length + 1) (hc : c < 2) : catR (gotoF l) l.length (litR 2 [.val (.int .i64 g.1), .val (.string g.2)]) i c = gotoF (l ++ [g]) i c := by
  unfold catR gotoF
  by_cases h : i < l.length
  · rw [if_pos h]; simp [List.getD, List.getElem?_append_left h]
  · obtain rfl : i = l.length := by omega
    rw [if_neg (Nat.lt_irrefl _)]
    have : (l ++ [g]).getD l.length default = g := by simp [List.getD]
    rw [this, Nat.sub_self]
    match c, hc with
    | 0, _ => rfl
    | 1, _ => rfl
def tgt (o : Ins) (n : Int) : Ins := if o.k = 10 then { o with a := n } else { o with b := n }
def stepG (P : List (ByteArray × Int)) (ops : List Ins) (g : Int × ByteArray) : List Ins := ops.set g.1.toNat (tgt (ops.getD g.1.toNat default) ((look P g.2).getD 0))
def finN (B : Bld) (n : Nat) : List Ins := (B.gotos.take n).foldl (stepG B.places) B.ops
def fin (B : Bld) : List Ins := B.gotos.foldl (stepG B.places) B.ops
theorem foldG_len (P : List (ByteArray × Int)) : ∀ (gs : List (Int × ByteArray)) (ops : List Ins), (gs.foldl (stepG P) ops).length = ops.length
  | [], _ => rfl
  | g :: gs, ops => by simp only [List.foldl_cons]; rw [foldG_len P gs]; simp [stepG]
theorem finN_len (B : Bld) (n : Nat) : (finN B n).length = B.ops.length := foldG_len _ _ _
theorem fin_len (B : Bld) : (fin B).length = B.ops.length := foldG_len _ _ _
theorem finN_succ (B : Bld) {n : Nat} (h : n < B.gotos.length) : finN B (n + 1) = stepG B.places (finN B n) (B.gotos.getD n default) := by
  unfold finN
  have : B.gotos.getD n default = B.gotos[n] := by simp [List.getD, h]
  rw [this, List.take_succ_eq_append_getElem h, List.foldl_append]
  rfl
theorem finN_all (B : Bld) : finN B B.gotos.length = fin B := by unfold finN fin; rw [List.take_length]
theorem getI_lt {l : List Ins} {k : Nat} (h : k < l.length) : l.getD k default = l[k] := by simp [List.getD, List.getElem?_eq_getElem h]
theorem set_get {l : List Ins} {j : Nat} {x : Ins} (i : Nat) (hi : i < l.length) : (l.set j x).getD i default = if j = i then x else l.getD i default := by
  rw [getI_lt (by simpa using hi), getI_lt hi, List.getElem_set]
theorem upd_a {l : List Ins} {j : Nat} {n : Int} (hk : (l.getD j default).k = 10) (i c : Nat) (hi : i < l.length) (hc : c < 5) : updR (insF l) j 1 [.val (.int .i64 n)] i c = insF (l.set j (tgt (l.getD j default) n)) i c := by
  unfold updR insF
  rw [set_get i hi]
  unfold tgt
  rw [if_pos hk]
  by_cases h : i = j
  · subst h
    match c, hc with
    | 0, _ => simp [insC]
    | 1, _ => simp [insC]
    | 2, _ => simp [insC]
    | 3, _ => simp [insC]
    | 4, _ => simp [insC]
  · rw [if_neg (fun e => h e.1), if_neg (Ne.symm h)]
theorem upd_b {l : List Ins} {j : Nat} {n : Int} (hk : ¬ (l.getD j default).k = 10) (i c : Nat) (hi : i < l.length) (hc : c < 5) : updR (insF l) j 2 [.val (.int .i64 n)] i c = insF (l.set j (tgt (l.getD j default) n)) i c := by
  unfold updR insF
  rw [set_get i hi]
  unfold tgt
  rw [if_neg hk]
  by_cases h : i = j
  · subst h
    match c, hc with
    | 0, _ => simp [insC]
    | 1, _ => simp [insC]
    | 2, _ => simp [insC]
    | 3, _ => simp [insC]
    | 4, _ => simp [insC]
  · rw [if_neg (fun e => h e.1), if_neg (Ne.symm h)]

theorem reg_had (B : Bld) (s : ByteArray) (n : Int) (h : look B.regs s = some n) : Spec Tryd.prog GV 56 [.ptr 0 0 0, .d (.val (.string s))] [.cells 114 4 [.sl 1 0 B.ops.length, .map 2, .sl 3 0 B.gotos.length, .map 4], .rows 64 5 B.ops.length (insF B.ops), .map (mapE B.places), .rows 116 2 B.gotos.length (gotoF B.gotos), .map (mapE B.regs)] (fun r ho => r = SV.i n ∧ ho = [some (.cells 114 4 [.sl 1 0 B.ops.length, .map 2, .sl 3 0 B.gotos.length, .map 4]), some (.rows 64 5 B.ops.length (insF B.ops)), some (.map (mapE B.places)), some (.rows 116 2 B.gotos.length (gotoF B.gotos)), some (.map (mapE B.regs))]) := by
  refine start 30 5 Tryd.func56 rfl rfl rfl rfl ?_
  refine r1 ?_
  refine s1 4 5 1 rfl rfl rfl rfl rfl rfl trivial ?_
  refine e1 13 rfl ?_
  refine keep [0, 1] rfl ?_
  refine r1 ?_
  refine s1 8 13 1 rfl rfl rfl rfl rfl rfl trivial ?_
  refine s1 9 21 2 rfl rfl rfl rfl rfl rfl trivial ?_
  refine s1 10 29 3 rfl rfl rfl rfl rfl rfl trivial ?_
  refine s1 11 37 4 rfl rfl rfl rfl rfl rfl (by first | trivial | omega) ?_
  refine s1 12 45 5 rfl rfl rfl rfl rfl rfl trivial ?_
  refine sLook (some (.val (.int .i64 n))) (by rw [mfind_mapE, h]; rfl) 13 53 6 rfl rfl rfl rfl rfl rfl rfl rfl rfl rfl rfl rfl rfl rfl rfl ?_
  refine s1 7 61 7 rfl rfl rfl rfl rfl rfl trivial ?_
  refine s1 14 69 8 rfl rfl rfl rfl rfl rfl trivial ?_
  refine s1 15 77 9 rfl rfl rfl rfl rfl rfl trivial ?_
  refine s1 5 85 10 rfl rfl rfl rfl rfl rfl trivial ?_
  refine s1 6 93 11 rfl rfl rfl rfl rfl rfl trivial ?_
  refine e1 101 rfl ?_
  refine keep [0, 1, 5, 6] rfl ?_
  refine W_seq ?_
  refine r1 ?_
  refine s1 16 101 1 rfl rfl rfl rfl rfl rfl trivial ?_
  refine s1 17 109 2 rfl rfl rfl rfl rfl rfl trivial ?_
  refine e1 117 rfl ?_
  refine keep [0, 1, 5, 17] rfl ?_
  refine q1 rfl (fun hc2 => ?_) (fun hc2 => ?_)
  · skip
    exact absurd hc2 (by simp)
  try simp only [cs, ne_eq] at hc2
  refine W_skip ?_
  refine tn ?_
  refine r1 ?_
  refine s1 29 117 1 rfl rfl rfl rfl rfl rfl trivial ?_
  refine s1 4 125 2 rfl rfl rfl rfl rfl rfl trivial ?_
  refine e1 133 rfl ?_
  refine keep [4] rfl ?_
  refine W_ret ?_
  exact out1 4 (SV.i n) (π := [0, 1, 2, 3, 4]) (hout := [some (.cells 114 4 [.sl 1 0 B.ops.length, .map 2, .sl 3 0 B.gotos.length, .map 4]), some (.rows 64 5 B.ops.length (insF B.ops)), some (.map (mapE B.places)), some (.rows 116 2 B.gotos.length (gotoF B.gotos)), some (.map (mapE B.regs))]) Tryd.results56 rfl rfl rfl rfl ⟨rfl, rfl, rfl, rfl, rfl, trivial⟩ ⟨rfl, rfl⟩

theorem reg_new (B : Bld) (s : ByteArray) (h : look B.regs s = none) : Spec Tryd.prog GV 56 [.ptr 0 0 0, .d (.val (.string s))] [.cells 114 4 [.sl 1 0 B.ops.length, .map 2, .sl 3 0 B.gotos.length, .map 4], .rows 64 5 B.ops.length (insF B.ops), .map (mapE B.places), .rows 116 2 B.gotos.length (gotoF B.gotos), .map (mapE B.regs)] (fun r ho => r = SV.i B.regs.length ∧ ho = [some (.cells 114 4 [.sl 1 0 B.ops.length, .map 2, .sl 3 0 B.gotos.length, .map 4]), some (.rows 64 5 B.ops.length (insF B.ops)), some (.map (mapE B.places)), some (.rows 116 2 B.gotos.length (gotoF B.gotos)), some (.map (mapE (putE B.regs s B.regs.length)))]) := by
  refine start 30 5 Tryd.func56 rfl rfl rfl rfl ?_
  refine r1 ?_
  refine s1 4 5 1 rfl rfl rfl rfl rfl rfl trivial ?_
  refine e1 13 rfl ?_
  refine keep [0, 1] rfl ?_
  refine r1 ?_
  refine s1 8 13 1 rfl rfl rfl rfl rfl rfl trivial ?_
  refine s1 9 21 2 rfl rfl rfl rfl rfl rfl trivial ?_
  refine s1 10 29 3 rfl rfl rfl rfl rfl rfl trivial ?_
  refine s1 11 37 4 rfl rfl rfl rfl rfl rfl (by first | trivial | omega) ?_
  refine s1 12 45 5 rfl rfl rfl rfl rfl rfl trivial ?_
  refine sLook (none) (by rw [mfind_mapE, h]; rfl) 13 53 6 rfl rfl rfl rfl rfl rfl rfl rfl rfl rfl rfl rfl rfl rfl rfl ?_
  refine s1 7 61 7 rfl rfl rfl rfl rfl rfl trivial ?_
  refine s1 14 69 8 rfl rfl rfl rfl rfl rfl trivial ?_
  refine s1 15 77 9 rfl rfl rfl rfl rfl rfl trivial ?_
  refine s1 5 85 10 rfl rfl rfl rfl rfl rfl trivial ?_
  refine s1 6 93 11 rfl rfl rfl rfl rfl rfl trivial ?_
  refine e1 101 rfl ?_
  refine keep [0, 1, 5, 6] rfl ?_
  refine W_seq ?_
  refine r1 ?_
  refine s1 16 101 1 rfl rfl rfl rfl rfl rfl trivial ?_
  refine s1 17 109 2 rfl rfl rfl rfl rfl rfl trivial ?_
  refine e1 117 rfl ?_
  refine keep [0, 1, 5, 17] rfl ?_
  refine q1 rfl (fun hc2 => ?_) (fun hc2 => ?_)
  · skip
    try simp only [cs, ne_eq] at hc2
    refine r1 ?_
    refine s1 18 117 1 rfl rfl rfl rfl rfl rfl trivial ?_
    refine s1 19 125 2 rfl rfl rfl rfl rfl rfl trivial ?_
    refine s1 20 133 3 rfl rfl rfl rfl rfl rfl trivial ?_
    refine s1 21 141 4 rfl rfl rfl rfl rfl rfl (by first | trivial | omega) ?_
    refine s1 22 149 5 rfl rfl rfl rfl rfl rfl (by first | trivial | omega) ?_
    refine val 22 (SV.i B.regs.length) rfl (by rw [mapE_length]) ?_
    refine s1 5 157 6 rfl rfl rfl rfl rfl rfl trivial ?_
    refine e1 165 rfl ?_
    refine keep [0, 1, 5] rfl ?_
    refine r0 ?_
    refine s1 23 165 1 rfl rfl rfl rfl rfl rfl trivial ?_
    refine s1 24 173 2 rfl rfl rfl rfl rfl rfl trivial ?_
    refine s1 25 181 3 rfl rfl rfl rfl rfl rfl trivial ?_
    refine s1 26 189 4 rfl rfl rfl rfl rfl rfl (by first | trivial | omega) ?_
    refine s1 27 197 5 rfl rfl rfl rfl rfl rfl trivial ?_
    refine s1 28 205 6 rfl rfl rfl rfl rfl rfl trivial ?_
    refine sMap ((by rw [mfind_mapE, h])) 213 7 rfl rfl rfl rfl rfl rfl rfl rfl rfl rfl rfl rfl ?_
    refine e1 221 rfl ?_
    refine tn ?_
    refine r1 ?_
    refine s1 29 221 1 rfl rfl rfl rfl rfl rfl trivial ?_
    refine s1 4 229 2 rfl rfl rfl rfl rfl rfl trivial ?_
    refine e1 237 rfl ?_
    refine keep [4] rfl ?_
    refine W_ret ?_
    exact out1 4 (SV.i B.regs.length) (π := [0, 1, 2, 3, 4]) (hout := [some (.cells 114 4 [.sl 1 0 B.ops.length, .map 2, .sl 3 0 B.gotos.length, .map 4]), some (.rows 64 5 B.ops.length (insF B.ops)), some (.map (mapE B.places)), some (.rows 116 2 B.gotos.length (gotoF B.gotos)), some (.map (mapE (putE B.regs s B.regs.length)))]) Tryd.results56 rfl rfl rfl rfl ⟨rfl, rfl, rfl, rfl, (by show some (Blk.map _) = some (Blk.map _); rw [mset_mapE]), trivial⟩ ⟨rfl, rfl⟩
  exact absurd hc2 (by simp)

theorem reg_any (B : Bld) (s : ByteArray) : Spec Tryd.prog GV 56 [.ptr 0 0 0, .d (.val (.string s))] [.cells 114 4 [.sl 1 0 B.ops.length, .map 2, .sl 3 0 B.gotos.length, .map 4], .rows 64 5 B.ops.length (insF B.ops), .map (mapE B.places), .rows 116 2 B.gotos.length (gotoF B.gotos), .map (mapE B.regs)] (fun r ho => r = SV.i (B.regN s) ∧ ho = [some (.cells 114 4 [.sl 1 0 (B.reg s).ops.length, .map 2, .sl 3 0 (B.reg s).gotos.length, .map 4]), some (.rows 64 5 (B.reg s).ops.length (insF (B.reg s).ops)), some (.map (mapE (B.reg s).places)), some (.rows 116 2 (B.reg s).gotos.length (gotoF (B.reg s).gotos)), some (.map (mapE (B.reg s).regs))]) := by
  cases h : look B.regs s with
  | some n =>
    have e1 : B.reg s = B := by unfold Bld.reg; rw [h]
    have e2 : B.regN s = n := by unfold Bld.regN; rw [h]; rfl
    rw [e1, e2]; exact reg_had B s n h
  | none =>
    have e1 : B.reg s = { B with regs := putE B.regs s B.regs.length } := by unfold Bld.reg; rw [h]
    have e2 : B.regN s = B.regs.length := by unfold Bld.regN; rw [h]; rfl
    rw [e1, e2]; exact reg_new B s h

theorem op_any (B : Bld) (op : Ins) (h : B.ops.length ≤ 100000) : Spec Tryd.prog GV 61 [.ptr 0 0 0, insS op] [.cells 114 4 [.sl 1 0 B.ops.length, .map 2, .sl 3 0 B.gotos.length, .map 4], .rows 64 5 B.ops.length (insF B.ops), .map (mapE B.places), .rows 116 2 B.gotos.length (gotoF B.gotos), .map (mapE B.regs)] (fun r ho => r = .ptr 0 0 0 ∧ ho = [some (.cells 114 4 [.sl 5 0 (B.push op).ops.length, .map 2, .sl 3 0 (B.push op).gotos.length, .map 4]), none, some (.map (mapE (B.push op).places)), some (.rows 116 2 (B.push op).gotos.length (gotoF (B.push op).gotos)), some (.map (mapE (B.push op).regs)), some (.rows 64 5 (B.push op).ops.length (insF (B.push op).ops))]) := by
  refine start 16 5 Tryd.func61 rfl rfl rfl rfl ?_
  refine r1 ?_
  refine s1 3 5 1 rfl rfl rfl rfl rfl rfl trivial ?_
  refine s1 4 13 2 rfl rfl rfl rfl rfl rfl trivial ?_
  refine e1 21 rfl ?_
  refine keep [0, 3] rfl ?_
  refine rd1 rfl ?_
  refine d1 5 21 1 rfl rfl rfl rfl rfl rfl trivial ?_
  refine d1 6 29 2 rfl rfl rfl rfl rfl rfl trivial ?_
  refine d1 7 37 3 rfl rfl rfl rfl rfl rfl trivial ?_
  refine d1 8 45 4 rfl rfl rfl rfl rfl rfl trivial ?_
  refine d1 9 53 5 rfl rfl rfl rfl rfl rfl (by first | trivial | omega) ?_
  refine d1 10 61 6 rfl rfl rfl rfl rfl rfl (by first | trivial | omega) ?_
  refine d1 11 69 7 rfl rfl rfl rfl rfl rfl trivial ?_
  refine d1 12 77 8 rfl rfl rfl rfl rfl rfl ⟨Nat.le_refl _, trivial, (by show (B.ops.length + 1) * 40 ≤ 140737488355328; omega), (by simp only [maxLen]; omega)⟩ ?_
  refine d1 13 85 9 rfl rfl rfl rfl rfl rfl trivial ?_
  refine d1 14 93 10 rfl rfl rfl rfl rfl rfl trivial ?_
  refine d0 101 11 rfl rfl rfl rfl rfl (by first | trivial | omega) ?_
  refine de1 109 rfl (by kernel_rfl) ?_
  refine keep [0] rfl ?_
  refine rowsc 77 _ (insF (B.push op).ops) rfl (push_len B op).symm (fun i c hi hc => cat_push i c hi hc) ?_
  refine chval 0 (.cells 114 4 [.sl 77 0 (B.push op).ops.length, .map 2, .sl 3 0 B.gotos.length, .map 4]) rfl (by rw [push_len]; rfl) ?_
  refine r1 ?_
  refine s1 15 109 1 rfl rfl rfl rfl rfl rfl trivial ?_
  refine s1 4 117 2 rfl rfl rfl rfl rfl rfl trivial ?_
  refine e1 125 rfl ?_
  refine keep [4] rfl ?_
  refine W_ret ?_
  exact out1 4 (.ptr 0 0 0) (π := [0, 1, 2, 3, 4, 77]) (hout := [some (.cells 114 4 [.sl 5 0 (B.push op).ops.length, .map 2, .sl 3 0 (B.push op).gotos.length, .map 4]), none, some (.map (mapE (B.push op).places)), some (.rows 116 2 (B.push op).gotos.length (gotoF (B.push op).gotos)), some (.map (mapE (B.push op).regs)), some (.rows 64 5 (B.push op).ops.length (insF (B.push op).ops))]) Tryd.results61 rfl rfl rfl rfl ⟨rfl, rfl, rfl, rfl, rfl, trivial⟩ ⟨rfl, rfl⟩

theorem set_any (B : Bld) (rg : ByteArray) (m : Int) {n : Nat} (h : B.ok n) (hn : n ≤ 100000) : Spec Tryd.prog GV 54 [.ptr 0 0 0, .d (.val (.string rg)), SV.i m] [.cells 114 4 [.sl 1 0 B.ops.length, .map 2, .sl 3 0 B.gotos.length, .map 4], .rows 64 5 B.ops.length (insF B.ops), .map (mapE B.places), .rows 116 2 B.gotos.length (gotoF B.gotos), .map (mapE B.regs)] (fun r ho => r = .ptr 0 0 0 ∧ ho = [some (.cells 114 4 [.sl 5 0 (B.set rg m).ops.length, .map 2, .sl 3 0 (B.set rg m).gotos.length, .map 4]), none, some (.map (mapE (B.set rg m).places)), some (.rows 116 2 (B.set rg m).gotos.length (gotoF (B.set rg m).gotos)), some (.map (mapE (B.set rg m).regs)), some (.rows 64 5 (B.set rg m).ops.length (insF (B.set rg m).ops))]) := by
  refine start 14 5 Tryd.func54 rfl rfl rfl rfl ?_
  refine r1 ?_
  refine s1 6 5 1 rfl rfl rfl rfl rfl rfl trivial ?_
  refine e1 13 rfl ?_
  refine keep [0, 1, 2] rfl ?_
  refine r1 ?_
  refine s1 7 13 1 rfl rfl rfl rfl rfl rfl trivial ?_
  refine s1 8 21 2 rfl rfl rfl rfl rfl rfl trivial ?_
  refine s1 9 29 3 rfl rfl rfl rfl rfl rfl trivial ?_
  refine c1 (reg_any B rg) [0, 1, 2, 3, 4] [0, 1, 2, 3, 4] 10 37 4 rfl rfl rfl rfl rfl rfl rfl rfl Tryd.func56 rfl rfl rfl rfl ⟨rfl, rfl, rfl, rfl, rfl, trivial⟩ rfl rfl ?_
  have hb1 := ok_reg (s := rg) h
  refine s1 11 45 5 rfl rfl rfl rfl rfl rfl trivial ?_
  refine s1 12 53 6 rfl rfl rfl rfl rfl rfl trivial ?_
  refine c1 (op_any (B.reg rg) ⟨1, (B.regN rg), m, 0, 0⟩ (Nat.le_trans (hb1).1 hn)) [0, 1, 2, 3, 4] [0, 1, 2, 3, 4, 61] 13 61 7 rfl rfl rfl rfl rfl rfl rfl rfl Tryd.func61 rfl rfl rfl rfl ⟨rfl, rfl, rfl, rfl, rfl, trivial⟩ rfl rfl ?_
  refine s1 6 69 8 rfl rfl rfl rfl rfl rfl trivial ?_
  refine e1 77 rfl ?_
  refine keep [6] rfl ?_
  refine W_ret ?_
  exact out1 6 (.ptr 0 0 0) (π := [0, 1, 2, 3, 4, 61]) (hout := [some (.cells 114 4 [.sl 5 0 (B.set rg m).ops.length, .map 2, .sl 3 0 (B.set rg m).gotos.length, .map 4]), none, some (.map (mapE (B.set rg m).places)), some (.rows 116 2 (B.set rg m).gotos.length (gotoF (B.set rg m).gotos)), some (.map (mapE (B.set rg m).regs)), some (.rows 64 5 (B.set rg m).ops.length (insF (B.set rg m).ops))]) Tryd.results54 rfl rfl rfl rfl ⟨rfl, rfl, rfl, rfl, rfl, trivial⟩ ⟨rfl, rfl⟩

theorem copy_any (B : Bld) (rg a : ByteArray) {n : Nat} (h : B.ok n) (hn : n ≤ 100000) : Spec Tryd.prog GV 53 [.ptr 0 0 0, .d (.val (.string rg)), .d (.val (.string a))] [.cells 114 4 [.sl 1 0 B.ops.length, .map 2, .sl 3 0 B.gotos.length, .map 4], .rows 64 5 B.ops.length (insF B.ops), .map (mapE B.places), .rows 116 2 B.gotos.length (gotoF B.gotos), .map (mapE B.regs)] (fun r ho => r = .ptr 0 0 0 ∧ ho = [some (.cells 114 4 [.sl 5 0 (B.copy rg a).ops.length, .map 2, .sl 3 0 (B.copy rg a).gotos.length, .map 4]), none, some (.map (mapE (B.copy rg a).places)), some (.rows 116 2 (B.copy rg a).gotos.length (gotoF (B.copy rg a).gotos)), some (.map (mapE (B.copy rg a).regs)), some (.rows 64 5 (B.copy rg a).ops.length (insF (B.copy rg a).ops))]) := by
  refine start 16 5 Tryd.func53 rfl rfl rfl rfl ?_
  refine r1 ?_
  refine s1 6 5 1 rfl rfl rfl rfl rfl rfl trivial ?_
  refine e1 13 rfl ?_
  refine keep [0, 1, 2] rfl ?_
  refine r1 ?_
  refine s1 7 13 1 rfl rfl rfl rfl rfl rfl trivial ?_
  refine s1 8 21 2 rfl rfl rfl rfl rfl rfl trivial ?_
  refine s1 9 29 3 rfl rfl rfl rfl rfl rfl trivial ?_
  refine c1 (reg_any B rg) [0, 1, 2, 3, 4] [0, 1, 2, 3, 4] 10 37 4 rfl rfl rfl rfl rfl rfl rfl rfl Tryd.func56 rfl rfl rfl rfl ⟨rfl, rfl, rfl, rfl, rfl, trivial⟩ rfl rfl ?_
  have hb1 := ok_reg (s := rg) h
  refine s1 11 45 5 rfl rfl rfl rfl rfl rfl trivial ?_
  refine s1 12 53 6 rfl rfl rfl rfl rfl rfl trivial ?_
  refine c1 (reg_any (B.reg rg) a) [0, 1, 2, 3, 4] [0, 1, 2, 3, 4] 13 61 7 rfl rfl rfl rfl rfl rfl rfl rfl Tryd.func56 rfl rfl rfl rfl ⟨rfl, rfl, rfl, rfl, rfl, trivial⟩ rfl rfl ?_
  have hb2 := ok_reg (s := a) hb1
  refine s1 14 69 8 rfl rfl rfl rfl rfl rfl trivial ?_
  refine c1 (op_any ((B.reg rg).reg a) ⟨2, (B.regN rg), ((B.reg rg).regN a), 0, 0⟩ (Nat.le_trans (hb2).1 hn)) [0, 1, 2, 3, 4] [0, 1, 2, 3, 4, 77] 15 77 9 rfl rfl rfl rfl rfl rfl rfl rfl Tryd.func61 rfl rfl rfl rfl ⟨rfl, rfl, rfl, rfl, rfl, trivial⟩ rfl rfl ?_
  refine s1 6 85 10 rfl rfl rfl rfl rfl rfl trivial ?_
  refine e1 93 rfl ?_
  refine keep [6] rfl ?_
  refine W_ret ?_
  exact out1 6 (.ptr 0 0 0) (π := [0, 1, 2, 3, 4, 77]) (hout := [some (.cells 114 4 [.sl 5 0 (B.copy rg a).ops.length, .map 2, .sl 3 0 (B.copy rg a).gotos.length, .map 4]), none, some (.map (mapE (B.copy rg a).places)), some (.rows 116 2 (B.copy rg a).gotos.length (gotoF (B.copy rg a).gotos)), some (.map (mapE (B.copy rg a).regs)), some (.rows 64 5 (B.copy rg a).ops.length (insF (B.copy rg a).ops))]) Tryd.results53 rfl rfl rfl rfl ⟨rfl, rfl, rfl, rfl, rfl, trivial⟩ ⟨rfl, rfl⟩

theorem doo_any (B : Bld) (k : Int) (rg a b : ByteArray) {n : Nat} (h : B.ok n) (hn : n ≤ 100000) : Spec Tryd.prog GV 38 [.ptr 0 0 0, SV.i k, .d (.val (.string rg)), .d (.val (.string a)), .d (.val (.string b))] [.cells 114 4 [.sl 1 0 B.ops.length, .map 2, .sl 3 0 B.gotos.length, .map 4], .rows 64 5 B.ops.length (insF B.ops), .map (mapE B.places), .rows 116 2 B.gotos.length (gotoF B.gotos), .map (mapE B.regs)] (fun r ho => r = .ptr 0 0 0 ∧ ho = [some (.cells 114 4 [.sl 5 0 (B.doo k rg a b).ops.length, .map 2, .sl 3 0 (B.doo k rg a b).gotos.length, .map 4]), none, some (.map (mapE (B.doo k rg a b).places)), some (.rows 116 2 (B.doo k rg a b).gotos.length (gotoF (B.doo k rg a b).gotos)), some (.map (mapE (B.doo k rg a b).regs)), some (.rows 64 5 (B.doo k rg a b).ops.length (insF (B.doo k rg a b).ops))]) := by
  refine start 24 5 Tryd.func38 rfl rfl rfl rfl ?_
  refine r1 ?_
  refine s1 10 5 1 rfl rfl rfl rfl rfl rfl trivial ?_
  refine e1 13 rfl ?_
  refine keep [0, 1, 2, 3, 4] rfl ?_
  refine r1 ?_
  refine s1 11 13 1 rfl rfl rfl rfl rfl rfl trivial ?_
  refine s1 12 21 2 rfl rfl rfl rfl rfl rfl trivial ?_
  refine s1 13 29 3 rfl rfl rfl rfl rfl rfl trivial ?_
  refine s1 14 37 4 rfl rfl rfl rfl rfl rfl trivial ?_
  refine c1 (reg_any B rg) [0, 1, 2, 3, 4] [0, 1, 2, 3, 4] 15 45 5 rfl rfl rfl rfl rfl rfl rfl rfl Tryd.func56 rfl rfl rfl rfl ⟨rfl, rfl, rfl, rfl, rfl, trivial⟩ rfl rfl ?_
  have hb1 := ok_reg (s := rg) h
  refine s1 16 53 6 rfl rfl rfl rfl rfl rfl trivial ?_
  refine s1 17 61 7 rfl rfl rfl rfl rfl rfl trivial ?_
  refine c1 (reg_any (B.reg rg) a) [0, 1, 2, 3, 4] [0, 1, 2, 3, 4] 18 69 8 rfl rfl rfl rfl rfl rfl rfl rfl Tryd.func56 rfl rfl rfl rfl ⟨rfl, rfl, rfl, rfl, rfl, trivial⟩ rfl rfl ?_
  have hb2 := ok_reg (s := a) hb1
  refine s1 19 77 9 rfl rfl rfl rfl rfl rfl trivial ?_
  refine s1 20 85 10 rfl rfl rfl rfl rfl rfl trivial ?_
  refine c1 (reg_any ((B.reg rg).reg a) b) [0, 1, 2, 3, 4] [0, 1, 2, 3, 4] 21 93 11 rfl rfl rfl rfl rfl rfl rfl rfl Tryd.func56 rfl rfl rfl rfl ⟨rfl, rfl, rfl, rfl, rfl, trivial⟩ rfl rfl ?_
  have hb3 := ok_reg (s := b) hb2
  refine s1 22 101 12 rfl rfl rfl rfl rfl rfl trivial ?_
  refine c1 (op_any (((B.reg rg).reg a).reg b) ⟨k, (B.regN rg), ((B.reg rg).regN a), (((B.reg rg).reg a).regN b), 0⟩ (Nat.le_trans (hb3).1 hn)) [0, 1, 2, 3, 4] [0, 1, 2, 3, 4, 109] 23 109 13 rfl rfl rfl rfl rfl rfl rfl rfl Tryd.func61 rfl rfl rfl rfl ⟨rfl, rfl, rfl, rfl, rfl, trivial⟩ rfl rfl ?_
  refine s1 10 117 14 rfl rfl rfl rfl rfl rfl trivial ?_
  refine e1 125 rfl ?_
  refine keep [10] rfl ?_
  refine W_ret ?_
  exact out1 10 (.ptr 0 0 0) (π := [0, 1, 2, 3, 4, 109]) (hout := [some (.cells 114 4 [.sl 5 0 (B.doo k rg a b).ops.length, .map 2, .sl 3 0 (B.doo k rg a b).gotos.length, .map 4]), none, some (.map (mapE (B.doo k rg a b).places)), some (.rows 116 2 (B.doo k rg a b).gotos.length (gotoF (B.doo k rg a b).gotos)), some (.map (mapE (B.doo k rg a b).regs)), some (.rows 64 5 (B.doo k rg a b).ops.length (insF (B.doo k rg a b).ops))]) Tryd.results38 rfl rfl rfl rfl ⟨rfl, rfl, rfl, rfl, rfl, trivial⟩ ⟨rfl, rfl⟩

theorem asmword_any (B : Bld) (k : Int) (rg a : ByteArray) (m : Int) {n : Nat} (h : B.ok n) (hn : n ≤ 100000) : Spec Tryd.prog GV 35 [.ptr 0 0 0, SV.i k, .d (.val (.string rg)), .d (.val (.string a)), SV.i m] [.cells 114 4 [.sl 1 0 B.ops.length, .map 2, .sl 3 0 B.gotos.length, .map 4], .rows 64 5 B.ops.length (insF B.ops), .map (mapE B.places), .rows 116 2 B.gotos.length (gotoF B.gotos), .map (mapE B.regs)] (fun r ho => r = .ptr 0 0 0 ∧ ho = [some (.cells 114 4 [.sl 5 0 (B.word k rg a m).ops.length, .map 2, .sl 3 0 (B.word k rg a m).gotos.length, .map 4]), none, some (.map (mapE (B.word k rg a m).places)), some (.rows 116 2 (B.word k rg a m).gotos.length (gotoF (B.word k rg a m).gotos)), some (.map (mapE (B.word k rg a m).regs)), some (.rows 64 5 (B.word k rg a m).ops.length (insF (B.word k rg a m).ops))]) := by
  refine start 22 5 Tryd.func35 rfl rfl rfl rfl ?_
  refine r1 ?_
  refine s1 10 5 1 rfl rfl rfl rfl rfl rfl trivial ?_
  refine e1 13 rfl ?_
  refine keep [0, 1, 2, 3, 4] rfl ?_
  refine r1 ?_
  refine s1 11 13 1 rfl rfl rfl rfl rfl rfl trivial ?_
  refine s1 12 21 2 rfl rfl rfl rfl rfl rfl trivial ?_
  refine s1 13 29 3 rfl rfl rfl rfl rfl rfl trivial ?_
  refine s1 14 37 4 rfl rfl rfl rfl rfl rfl trivial ?_
  refine c1 (reg_any B rg) [0, 1, 2, 3, 4] [0, 1, 2, 3, 4] 15 45 5 rfl rfl rfl rfl rfl rfl rfl rfl Tryd.func56 rfl rfl rfl rfl ⟨rfl, rfl, rfl, rfl, rfl, trivial⟩ rfl rfl ?_
  have hb1 := ok_reg (s := rg) h
  refine s1 16 53 6 rfl rfl rfl rfl rfl rfl trivial ?_
  refine s1 17 61 7 rfl rfl rfl rfl rfl rfl trivial ?_
  refine c1 (reg_any (B.reg rg) a) [0, 1, 2, 3, 4] [0, 1, 2, 3, 4] 18 69 8 rfl rfl rfl rfl rfl rfl rfl rfl Tryd.func56 rfl rfl rfl rfl ⟨rfl, rfl, rfl, rfl, rfl, trivial⟩ rfl rfl ?_
  have hb2 := ok_reg (s := a) hb1
  refine s1 19 77 9 rfl rfl rfl rfl rfl rfl trivial ?_
  refine s1 20 85 10 rfl rfl rfl rfl rfl rfl trivial ?_
  refine c1 (op_any ((B.reg rg).reg a) ⟨k, (B.regN rg), ((B.reg rg).regN a), m, 0⟩ (Nat.le_trans (hb2).1 hn)) [0, 1, 2, 3, 4] [0, 1, 2, 3, 4, 93] 21 93 11 rfl rfl rfl rfl rfl rfl rfl rfl Tryd.func61 rfl rfl rfl rfl ⟨rfl, rfl, rfl, rfl, rfl, trivial⟩ rfl rfl ?_
  refine s1 10 101 12 rfl rfl rfl rfl rfl rfl trivial ?_
  refine e1 109 rfl ?_
  refine keep [10] rfl ?_
  refine W_ret ?_
  exact out1 10 (.ptr 0 0 0) (π := [0, 1, 2, 3, 4, 93]) (hout := [some (.cells 114 4 [.sl 5 0 (B.word k rg a m).ops.length, .map 2, .sl 3 0 (B.word k rg a m).gotos.length, .map 4]), none, some (.map (mapE (B.word k rg a m).places)), some (.rows 116 2 (B.word k rg a m).gotos.length (gotoF (B.word k rg a m).gotos)), some (.map (mapE (B.word k rg a m).regs)), some (.rows 64 5 (B.word k rg a m).ops.length (insF (B.word k rg a m).ops))]) Tryd.results35 rfl rfl rfl rfl ⟨rfl, rfl, rfl, rfl, rfl, trivial⟩ ⟨rfl, rfl⟩

theorem cas_any (B : Bld) (rg a : ByteArray) (m : Int) (ol : ByteArray) {n : Nat} (h : B.ok n) (hn : n ≤ 100000) : Spec Tryd.prog GV 39 [.ptr 0 0 0, .d (.val (.string rg)), .d (.val (.string a)), SV.i m, .d (.val (.string ol))] [.cells 114 4 [.sl 1 0 B.ops.length, .map 2, .sl 3 0 B.gotos.length, .map 4], .rows 64 5 B.ops.length (insF B.ops), .map (mapE B.places), .rows 116 2 B.gotos.length (gotoF B.gotos), .map (mapE B.regs)] (fun r ho => r = .ptr 0 0 0 ∧ ho = [some (.cells 114 4 [.sl 5 0 (B.cas rg a m ol).ops.length, .map 2, .sl 3 0 (B.cas rg a m ol).gotos.length, .map 4]), none, some (.map (mapE (B.cas rg a m ol).places)), some (.rows 116 2 (B.cas rg a m ol).gotos.length (gotoF (B.cas rg a m ol).gotos)), some (.map (mapE (B.cas rg a m ol).regs)), some (.rows 64 5 (B.cas rg a m ol).ops.length (insF (B.cas rg a m ol).ops))]) := by
  refine start 24 5 Tryd.func39 rfl rfl rfl rfl ?_
  refine r1 ?_
  refine s1 10 5 1 rfl rfl rfl rfl rfl rfl trivial ?_
  refine e1 13 rfl ?_
  refine keep [0, 1, 2, 3, 4] rfl ?_
  refine r1 ?_
  refine s1 11 13 1 rfl rfl rfl rfl rfl rfl trivial ?_
  refine s1 12 21 2 rfl rfl rfl rfl rfl rfl trivial ?_
  refine s1 13 29 3 rfl rfl rfl rfl rfl rfl trivial ?_
  refine c1 (reg_any B rg) [0, 1, 2, 3, 4] [0, 1, 2, 3, 4] 14 37 4 rfl rfl rfl rfl rfl rfl rfl rfl Tryd.func56 rfl rfl rfl rfl ⟨rfl, rfl, rfl, rfl, rfl, trivial⟩ rfl rfl ?_
  have hb1 := ok_reg (s := rg) h
  refine s1 15 45 5 rfl rfl rfl rfl rfl rfl trivial ?_
  refine s1 16 53 6 rfl rfl rfl rfl rfl rfl trivial ?_
  refine c1 (reg_any (B.reg rg) a) [0, 1, 2, 3, 4] [0, 1, 2, 3, 4] 17 61 7 rfl rfl rfl rfl rfl rfl rfl rfl Tryd.func56 rfl rfl rfl rfl ⟨rfl, rfl, rfl, rfl, rfl, trivial⟩ rfl rfl ?_
  have hb2 := ok_reg (s := a) hb1
  refine s1 18 69 8 rfl rfl rfl rfl rfl rfl trivial ?_
  refine s1 19 77 9 rfl rfl rfl rfl rfl rfl trivial ?_
  refine s1 20 85 10 rfl rfl rfl rfl rfl rfl trivial ?_
  refine c1 (reg_any ((B.reg rg).reg a) ol) [0, 1, 2, 3, 4] [0, 1, 2, 3, 4] 21 93 11 rfl rfl rfl rfl rfl rfl rfl rfl Tryd.func56 rfl rfl rfl rfl ⟨rfl, rfl, rfl, rfl, rfl, trivial⟩ rfl rfl ?_
  have hb3 := ok_reg (s := ol) hb2
  refine s1 22 101 12 rfl rfl rfl rfl rfl rfl trivial ?_
  refine c1 (op_any (((B.reg rg).reg a).reg ol) ⟨15, (B.regN rg), ((B.reg rg).regN a), m, (((B.reg rg).reg a).regN ol)⟩ (Nat.le_trans (hb3).1 hn)) [0, 1, 2, 3, 4] [0, 1, 2, 3, 4, 109] 23 109 13 rfl rfl rfl rfl rfl rfl rfl rfl Tryd.func61 rfl rfl rfl rfl ⟨rfl, rfl, rfl, rfl, rfl, trivial⟩ rfl rfl ?_
  refine s1 10 117 14 rfl rfl rfl rfl rfl rfl trivial ?_
  refine e1 125 rfl ?_
  refine keep [10] rfl ?_
  refine W_ret ?_
  exact out1 10 (.ptr 0 0 0) (π := [0, 1, 2, 3, 4, 109]) (hout := [some (.cells 114 4 [.sl 5 0 (B.cas rg a m ol).ops.length, .map 2, .sl 3 0 (B.cas rg a m ol).gotos.length, .map 4]), none, some (.map (mapE (B.cas rg a m ol).places)), some (.rows 116 2 (B.cas rg a m ol).gotos.length (gotoF (B.cas rg a m ol).gotos)), some (.map (mapE (B.cas rg a m ol).regs)), some (.rows 64 5 (B.cas rg a m ol).ops.length (insF (B.cas rg a m ol).ops))]) Tryd.results39 rfl rfl rfl rfl ⟨rfl, rfl, rfl, rfl, rfl, trivial⟩ ⟨rfl, rfl⟩

theorem done_any (B : Bld)  {n : Nat} (h : B.ok n) (hn : n ≤ 100000) : Spec Tryd.prog GV 52 [.ptr 0 0 0] [.cells 114 4 [.sl 1 0 B.ops.length, .map 2, .sl 3 0 B.gotos.length, .map 4], .rows 64 5 B.ops.length (insF B.ops), .map (mapE B.places), .rows 116 2 B.gotos.length (gotoF B.gotos), .map (mapE B.regs)] (fun r ho => r = .ptr 0 0 0 ∧ ho = [some (.cells 114 4 [.sl 5 0 B.done.ops.length, .map 2, .sl 3 0 B.done.gotos.length, .map 4]), none, some (.map (mapE B.done.places)), some (.rows 116 2 B.done.gotos.length (gotoF B.done.gotos)), some (.map (mapE B.done.regs)), some (.rows 64 5 B.done.ops.length (insF B.done.ops))]) := by
  refine start 6 5 Tryd.func52 rfl rfl rfl rfl ?_
  refine r1 ?_
  refine s1 2 5 1 rfl rfl rfl rfl rfl rfl trivial ?_
  refine e1 13 rfl ?_
  refine keep [0] rfl ?_
  refine r1 ?_
  refine s1 3 13 1 rfl rfl rfl rfl rfl rfl trivial ?_
  refine s1 4 21 2 rfl rfl rfl rfl rfl rfl trivial ?_
  refine c1 (op_any B ⟨17, 0, 0, 0, 0⟩ (Nat.le_trans (h).1 hn)) [0, 1, 2, 3, 4] [0, 1, 2, 3, 4, 29] 5 29 3 rfl rfl rfl rfl rfl rfl rfl rfl Tryd.func61 rfl rfl rfl rfl ⟨rfl, rfl, rfl, rfl, rfl, trivial⟩ rfl rfl ?_
  refine s1 2 37 4 rfl rfl rfl rfl rfl rfl trivial ?_
  refine e1 45 rfl ?_
  refine keep [2] rfl ?_
  refine W_ret ?_
  exact out1 2 (.ptr 0 0 0) (π := [0, 1, 2, 3, 4, 29]) (hout := [some (.cells 114 4 [.sl 5 0 B.done.ops.length, .map 2, .sl 3 0 B.done.gotos.length, .map 4]), none, some (.map (mapE B.done.places)), some (.rows 116 2 B.done.gotos.length (gotoF B.done.gotos)), some (.map (mapE B.done.regs)), some (.rows 64 5 B.done.ops.length (insF B.done.ops))]) Tryd.results52 rfl rfl rfl rfl ⟨rfl, rfl, rfl, rfl, rfl, trivial⟩ ⟨rfl, rfl⟩

theorem mark_any (B : Bld) (p : ByteArray) {n : Nat} (h : B.ok n) (hn : n ≤ 100000) : Spec Tryd.prog GV 37 [.ptr 0 0 0, .d (.val (.string p))] [.cells 114 4 [.sl 1 0 B.ops.length, .map 2, .sl 3 0 B.gotos.length, .map 4], .rows 64 5 B.ops.length (insF B.ops), .map (mapE B.places), .rows 116 2 B.gotos.length (gotoF B.gotos), .map (mapE B.regs)] (fun r ho => r = .ptr 0 0 0 ∧ ho = [some (.cells 114 4 [.sl 1 0 (B.mark p).ops.length, .map 2, .sl 3 0 (B.mark p).gotos.length, .map 4]), some (.rows 64 5 (B.mark p).ops.length (insF (B.mark p).ops)), some (.map (mapE (B.mark p).places)), some (.rows 116 2 (B.mark p).gotos.length (gotoF (B.mark p).gotos)), some (.map (mapE (B.mark p).regs))]) := by
  refine start 16 5 Tryd.func37 rfl rfl rfl rfl ?_
  refine r1 ?_
  refine s1 4 5 1 rfl rfl rfl rfl rfl rfl trivial ?_
  refine e1 13 rfl ?_
  refine keep [0, 1] rfl ?_
  refine rd1 rfl ?_
  refine d1 5 13 1 rfl rfl rfl rfl rfl rfl trivial ?_
  refine d1 6 21 2 rfl rfl rfl rfl rfl rfl trivial ?_
  refine d1 7 29 3 rfl rfl rfl rfl rfl rfl trivial ?_
  refine d1 8 37 4 rfl rfl rfl rfl rfl rfl (by first | trivial | omega) ?_
  refine d1 9 45 5 rfl rfl rfl rfl rfl rfl trivial ?_
  refine d1 10 53 6 rfl rfl rfl rfl rfl rfl trivial ?_
  refine d1 11 61 7 rfl rfl rfl rfl rfl rfl trivial ?_
  refine d1 12 69 8 rfl rfl rfl rfl rfl rfl trivial ?_
  refine d1 13 77 9 rfl rfl rfl rfl rfl rfl (by first | trivial | omega) ?_
  refine d1 14 85 10 rfl rfl rfl rfl rfl rfl (by first | trivial | omega) ?_
  refine dMap ((mfind_mapE _ _)) 93 11 rfl rfl rfl rfl rfl rfl rfl rfl rfl rfl rfl rfl ?_
  refine de1 101 rfl (by kernel_rfl) ?_
  refine keep [0] rfl ?_
  refine r1 ?_
  refine s1 15 101 1 rfl rfl rfl rfl rfl rfl trivial ?_
  refine s1 4 109 2 rfl rfl rfl rfl rfl rfl trivial ?_
  refine e1 117 rfl ?_
  refine keep [4] rfl ?_
  refine W_ret ?_
  exact out1 4 (.ptr 0 0 0) (π := [0, 1, 2, 3, 4]) (hout := [some (.cells 114 4 [.sl 1 0 (B.mark p).ops.length, .map 2, .sl 3 0 (B.mark p).gotos.length, .map 4]), some (.rows 64 5 (B.mark p).ops.length (insF (B.mark p).ops)), some (.map (mapE (B.mark p).places)), some (.rows 116 2 (B.mark p).gotos.length (gotoF (B.mark p).gotos)), some (.map (mapE (B.mark p).regs))]) Tryd.results37 rfl rfl rfl rfl ⟨rfl, rfl, (by show some (Blk.map _) = some (Blk.map _); rw [mset_mapE]; rfl), rfl, rfl, trivial⟩ ⟨rfl, rfl⟩

theorem iff_any (B : Bld) (k : Int) (rg p : ByteArray) {n : Nat} (h : B.ok n) (hn : n ≤ 90000) : Spec Tryd.prog GV 33 [.ptr 0 0 0, SV.i k, .d (.val (.string rg)), .d (.val (.string p))] [.cells 114 4 [.sl 1 0 B.ops.length, .map 2, .sl 3 0 B.gotos.length, .map 4], .rows 64 5 B.ops.length (insF B.ops), .map (mapE B.places), .rows 116 2 B.gotos.length (gotoF B.gotos), .map (mapE B.regs)] (fun r ho => r = .ptr 0 0 0 ∧ ho = [some (.cells 114 4 [.sl 6 0 (B.iff k rg p).ops.length, .map 2, .sl 5 0 (B.iff k rg p).gotos.length, .map 4]), none, some (.map (mapE (B.iff k rg p).places)), none, some (.map (mapE (B.iff k rg p).regs)), some (.rows 116 2 (B.iff k rg p).gotos.length (gotoF (B.iff k rg p).gotos)), some (.rows 64 5 (B.iff k rg p).ops.length (insF (B.iff k rg p).ops))]) := by
  refine start 32 5 Tryd.func33 rfl rfl rfl rfl ?_
  refine r1 ?_
  refine s1 8 5 1 rfl rfl rfl rfl rfl rfl trivial ?_
  refine e1 13 rfl ?_
  refine keep [0, 1, 2, 3] rfl ?_
  refine rd1 rfl ?_
  refine d1 9 13 1 rfl rfl rfl rfl rfl rfl trivial ?_
  refine d1 10 21 2 rfl rfl rfl rfl rfl rfl trivial ?_
  refine d1 11 29 3 rfl rfl rfl rfl rfl rfl trivial ?_
  refine d1 12 37 4 rfl rfl rfl rfl rfl rfl trivial ?_
  refine d1 13 45 5 rfl rfl rfl rfl rfl rfl (by first | trivial | omega) ?_
  refine d1 14 53 6 rfl rfl rfl rfl rfl rfl trivial ?_
  refine d1 15 61 7 rfl rfl rfl rfl rfl rfl trivial ?_
  refine d1 16 69 8 rfl rfl rfl rfl rfl rfl trivial ?_
  refine d1 17 77 9 rfl rfl rfl rfl rfl rfl (by first | trivial | omega) ?_
  refine d1 18 85 10 rfl rfl rfl rfl rfl rfl (by first | trivial | omega) ?_
  refine d1 19 93 11 rfl rfl rfl rfl rfl rfl trivial ?_
  refine d1 20 101 12 rfl rfl rfl rfl rfl rfl trivial ?_
  refine d1 21 109 13 rfl rfl rfl rfl rfl rfl trivial ?_
  refine d1 22 117 14 rfl rfl rfl rfl rfl rfl ⟨Nat.le_refl _, trivial, (by have := h.2.1; show (B.gotos.length + 1) * 24 ≤ 140737488355328; omega), (by have := h.2.1; simp only [maxLen]; omega)⟩ ?_
  refine d1 23 125 15 rfl rfl rfl rfl rfl rfl trivial ?_
  refine d1 24 133 16 rfl rfl rfl rfl rfl rfl trivial ?_
  refine d0 141 17 rfl rfl rfl rfl rfl (by first | trivial | omega) ?_
  refine de1 149 rfl (by kernel_rfl) ?_
  refine keep [0, 1, 2] rfl ?_
  refine rowsc 117 _ (gotoF (B.go p).gotos) rfl (go_len B p).symm (fun i c hi hc => cat_goto (g := ((B.ops.length : Int), p)) i c hi hc) ?_
  refine chval 0 (.cells 114 4 [.sl 1 0 B.ops.length, .map 2, .sl 117 0 (B.go p).gotos.length, .map 4]) rfl (by rw [go_len]; rfl) ?_
  refine r1 ?_
  refine s1 25 149 1 rfl rfl rfl rfl rfl rfl trivial ?_
  refine s1 26 157 2 rfl rfl rfl rfl rfl rfl trivial ?_
  refine s1 27 165 3 rfl rfl rfl rfl rfl rfl trivial ?_
  refine s1 28 173 4 rfl rfl rfl rfl rfl rfl trivial ?_
  refine c1 (reg_any (B.go p) rg) [0, 1, 2, 117, 4] [0, 1, 2, 117, 4] 29 181 5 rfl rfl rfl rfl rfl rfl rfl rfl Tryd.func56 rfl rfl rfl rfl ⟨rfl, rfl, rfl, rfl, rfl, trivial⟩ rfl rfl ?_
  refine s1 30 189 6 rfl rfl rfl rfl rfl rfl trivial ?_
  refine c1 (op_any ((B.go p).reg rg) ⟨k, ((B.go p).regN rg), 0, 0, 0⟩ (by first | (rw [reg_ops]; exact Nat.le_trans h.1 (by omega)) | exact Nat.le_trans (show B.ops.length ≤ n from h.1) (by omega))) [0, 1, 2, 117, 4] [0, 1, 2, 117, 4, 197] 31 197 7 rfl rfl rfl rfl rfl rfl rfl rfl Tryd.func61 rfl rfl rfl rfl ⟨rfl, rfl, rfl, rfl, rfl, trivial⟩ rfl rfl ?_
  refine s1 8 205 8 rfl rfl rfl rfl rfl rfl trivial ?_
  refine e1 213 rfl ?_
  refine keep [8] rfl ?_
  refine W_ret ?_
  exact out1 8 (.ptr 0 0 0) (π := [0, 1, 2, 3, 4, 117, 197]) (hout := [some (.cells 114 4 [.sl 6 0 (B.iff k rg p).ops.length, .map 2, .sl 5 0 (B.iff k rg p).gotos.length, .map 4]), none, some (.map (mapE (B.iff k rg p).places)), none, some (.map (mapE (B.iff k rg p).regs)), some (.rows 116 2 (B.iff k rg p).gotos.length (gotoF (B.iff k rg p).gotos)), some (.rows 64 5 (B.iff k rg p).ops.length (insF (B.iff k rg p).ops))]) Tryd.results33 rfl rfl rfl rfl ⟨rfl, rfl, rfl, rfl, rfl, trivial⟩ ⟨rfl, rfl⟩

theorem tell_any (B : Bld) (rg : ByteArray) {n : Nat} (h : B.ok n) (hn : n ≤ 100000) : Spec Tryd.prog GV 40 [.ptr 0 0 0, .d (.vec 1 1 (strsF [rg]))] [.cells 114 4 [.sl 1 0 B.ops.length, .map 2, .sl 3 0 B.gotos.length, .map 4], .rows 64 5 B.ops.length (insF B.ops), .map (mapE B.places), .rows 116 2 B.gotos.length (gotoF B.gotos), .map (mapE B.regs)] (fun r ho => r = .ptr 0 0 0 ∧ ho = [some (.cells 114 4 [.sl 5 0 (B.tell rg).ops.length, .map 2, .sl 3 0 (B.tell rg).gotos.length, .map 4]), none, some (.map (mapE (B.tell rg).places)), some (.rows 116 2 (B.tell rg).gotos.length (gotoF (B.tell rg).gotos)), some (.map (mapE (B.tell rg).regs)), some (.rows 64 5 (B.tell rg).ops.length (insF (B.tell rg).ops))]) := by
  refine start 21 5 Tryd.func40 rfl rfl rfl rfl ?_
  refine r1 ?_
  refine s1 4 5 1 rfl rfl rfl rfl rfl rfl trivial ?_
  refine e1 13 rfl ?_
  refine keep [0, 1] rfl ?_
  refine W_seq ?_
  refine r1 ?_
  refine s1 7 13 1 rfl rfl rfl rfl rfl rfl trivial ?_
  refine s1 8 21 2 rfl rfl rfl rfl rfl rfl (by first | trivial | omega) ?_
  refine s1 9 29 3 rfl rfl rfl rfl rfl rfl trivial ?_
  refine e1 37 rfl ?_
  refine keep [0, 7, 8, 9] rfl ?_
  refine W_block ?_
  refine W_unroll 2 ?_
  refine unr ?_
  refine r1 ?_
  refine s1 10 37 1 rfl rfl rfl rfl rfl rfl (by first | trivial | omega) ?_
  refine e1 45 rfl ?_
  refine keep [0, 7, 8, 9, 10] rfl ?_
  refine W_seq ?_
  refine q1 rfl (fun hc2 => ?_) (fun hc2 => ?_)
  · skip
    try simp only [cs, ne_eq] at hc2
    refine W_skip ?_
    refine tn ?_
    refine W_seq ?_
    refine W_block ?_
    refine r1 ?_
    refine s1 11 45 1 rfl rfl rfl rfl rfl rfl (by first | trivial | omega) ?_
    refine s1 12 53 2 rfl rfl rfl rfl rfl rfl (by first | trivial | omega) ?_
    refine s1 6 61 3 rfl rfl rfl rfl rfl rfl trivial ?_
    refine e1 69 rfl ?_
    refine keep [0, 6, 7, 8, 9] rfl ?_
    refine r0 ?_
    refine s1 13 69 1 rfl rfl rfl rfl rfl rfl trivial ?_
    refine s1 14 77 2 rfl rfl rfl rfl rfl rfl trivial ?_
    refine s1 15 85 3 rfl rfl rfl rfl rfl rfl trivial ?_
    refine c1 (reg_any B rg) [0, 1, 2, 3, 4] [0, 1, 2, 3, 4] 16 93 4 rfl rfl rfl rfl rfl rfl rfl rfl Tryd.func56 rfl rfl rfl rfl ⟨rfl, rfl, rfl, rfl, rfl, trivial⟩ rfl rfl ?_
    have hb1 := ok_reg (s := rg) h
    refine s1 17 101 5 rfl rfl rfl rfl rfl rfl trivial ?_
    refine c1 (op_any (B.reg rg) ⟨16, (B.regN rg), 0, 0, 0⟩ (Nat.le_trans (hb1).1 hn)) [0, 1, 2, 3, 4] [0, 1, 2, 3, 4, 109] 18 109 6 rfl rfl rfl rfl rfl rfl rfl rfl Tryd.func61 rfl rfl rfl rfl ⟨rfl, rfl, rfl, rfl, rfl, trivial⟩ rfl rfl ?_
    refine e1 117 rfl ?_
    refine bn ?_
    refine tn ?_
    refine r0 ?_
    refine sA 19 117 1 rfl rfl rfl rfl rfl rfl rfl rfl rfl (by unfold inRange; omega) ?_
    refine s1 9 125 2 rfl rfl rfl rfl rfl rfl trivial ?_
    refine e1 133 rfl ?_
    refine tn ?_
    refine unr ?_
    refine r1 ?_
    refine s1 10 133 1 rfl rfl rfl rfl rfl rfl (by first | trivial | omega) ?_
    refine e1 141 rfl ?_
    refine keep [0, 7, 8, 9, 10] rfl ?_
    refine W_seq ?_
    refine q1 rfl (fun hc2 => ?_) (fun hc2 => ?_)
    · skip
      exact absurd hc2 (by decide)
    try simp only [cs, ne_eq] at hc2
    refine W_exit ?_
    refine tx ?_
    refine tx ?_
    refine bx ?_
    refine tn ?_
    refine r1 ?_
    refine s1 20 141 1 rfl rfl rfl rfl rfl rfl trivial ?_
    refine s1 4 149 2 rfl rfl rfl rfl rfl rfl trivial ?_
    refine e1 157 rfl ?_
    refine keep [4] rfl ?_
    refine W_ret ?_
    exact out1 4 (.ptr 0 0 0) (π := [0, 1, 2, 3, 4, 109]) (hout := [some (.cells 114 4 [.sl 5 0 (B.tell rg).ops.length, .map 2, .sl 3 0 (B.tell rg).gotos.length, .map 4]), none, some (.map (mapE (B.tell rg).places)), some (.rows 116 2 (B.tell rg).gotos.length (gotoF (B.tell rg).gotos)), some (.map (mapE (B.tell rg).regs)), some (.rows 64 5 (B.tell rg).ops.length (insF (B.tell rg).ops))]) Tryd.results40 rfl rfl rfl rfl ⟨rfl, rfl, rfl, rfl, rfl, trivial⟩ ⟨rfl, rfl⟩
  exact absurd hc2 (by decide)

theorem ops_any (B : Bld) {m : Nat} (h : B.ok m) (hm : m ≤ 100000) : Spec Tryd.prog GV 36 [.ptr 0 0 0] [.cells 114 4 [.sl 1 0 B.ops.length, .map 2, .sl 3 0 B.gotos.length, .map 4], .rows 64 5 B.ops.length (insF B.ops), .map (mapE B.places), .rows 116 2 B.gotos.length (gotoF B.gotos), .map (mapE B.regs)] (fun r ho => r = .sl 1 0 (fin B).length ∧ ho = [some (.cells 114 4 [.sl 1 0 B.ops.length, .map 2, .sl 3 0 B.gotos.length, .map 4]), some (.rows 64 5 (fin B).length (insF (fin B))), some (.map (mapE B.places)), some (.rows 116 2 B.gotos.length (gotoF B.gotos)), some (.map (mapE B.regs))]) := by
  refine start 48 5 Tryd.func36 rfl rfl rfl rfl ?_
  refine r1 ?_
  refine s1 2 5 1 rfl rfl rfl rfl rfl rfl trivial ?_
  refine e1 13 rfl ?_
  refine keep [0] rfl ?_
  refine W_seq ?_
  refine r1 ?_
  refine s1 7 13 1 rfl rfl rfl rfl rfl rfl trivial ?_
  refine s1 8 21 2 rfl rfl rfl rfl rfl rfl trivial ?_
  refine s1 9 29 3 rfl rfl rfl rfl rfl rfl trivial ?_
  refine s1 10 37 4 rfl rfl rfl rfl rfl rfl (by first | trivial | omega) ?_
  refine s1 11 45 5 rfl rfl rfl rfl rfl rfl (by first | trivial | omega) ?_
  refine s1 12 53 6 rfl rfl rfl rfl rfl rfl trivial ?_
  refine e1 61 rfl ?_
  refine keep [0, 10, 11, 12] rfl ?_
  refine W_block ?_
  have hgl := h.2.1
  refine loop (α := Nat) 5 (fun n => [(0, .ptr 0 0 0), (10, .sl 3 0 B.gotos.length), (11, SV.i B.gotos.length), (12, SV.i n)]) (fun n => [some (.cells 114 4 [.sl 1 0 B.ops.length, .map 2, .sl 3 0 B.gotos.length, .map 4]), some (.rows 64 5 B.ops.length (insF (finN B n))), some (.map (mapE B.places)), some (.rows 116 2 B.gotos.length (gotoF B.gotos)), some (.map (mapE B.regs))]) (fun n => n ≤ B.gotos.length) (fun n => B.gotos.length - n) (0) [0, 1, 2, 3, 4] (fun _ => rfl) (Nat.zero_le _) rfl ⟨rfl, rfl, rfl, rfl, trivial⟩ ⟨rfl, rfl, rfl, rfl, rfl, trivial⟩ (fun n hx => ?_)
  refine r1 ?_
  refine s1 13 5 1 rfl rfl rfl rfl rfl rfl (by first | trivial | omega) ?_
  refine e1 13 rfl ?_
  refine keep [0, 10, 11, 12, 13] rfl ?_
  refine W_seq ?_
  refine q1 rfl (fun hc2 => ?_) (fun hc2 => ?_)
  · skip
    try simp only [cs, ne_eq] at hc2
    have hg : 0 ≤ (B.gotos.getD n default).1 ∧ (B.gotos.getD n default).1 < B.ops.length := (h.2.2 _ (by rw [show (B.gotos.getD n default) = B.gotos[n]'(by omega) from by simp [List.getD, show n < B.gotos.length by omega]]; exact List.getElem_mem _))
    have hj : (B.gotos.getD n default).1.toNat < B.ops.length := (by omega)
    refine W_skip ?_
    refine tn ?_
    refine W_seq ?_
    refine W_block ?_
    refine r1 ?_
    refine s1 14 13 1 rfl rfl rfl rfl rfl rfl (by first | omega | (simp only [Int.toNat_natCast] at *; omega)) ?_
    refine s1 15 21 2 rfl rfl rfl rfl rfl rfl (by first | omega | (simp only [Int.toNat_natCast] at *; omega)) ?_
    refine s1 4 29 3 rfl rfl rfl rfl rfl rfl trivial ?_
    refine s0 37 4 rfl rfl rfl rfl rfl (by first | trivial | omega) ?_
    refine e1 45 rfl ?_
    refine keep [0, 4, 10, 11, 12] rfl ?_
    refine rd1 rfl ?_
    refine d1 16 45 1 rfl rfl rfl rfl rfl rfl trivial ?_
    refine d1 17 53 2 rfl rfl rfl rfl rfl rfl trivial ?_
    refine d1 18 61 3 rfl rfl rfl rfl rfl rfl trivial ?_
    refine d1 19 69 4 rfl rfl rfl rfl rfl rfl (by first | trivial | omega) ?_
    refine d1 20 77 5 rfl rfl rfl rfl rfl rfl trivial ?_
    refine d1 21 85 6 rfl rfl rfl rfl rfl rfl (by first | trivial | omega) ?_
    refine val 21 (SV.i (B.gotos.getD n default).1) rfl (by simp only [Nat.zero_add, Int.toNat_natCast]) ?_
    refine d1 22 93 7 rfl rfl rfl rfl rfl rfl (by omega) ?_
    refine val 22 (.ptr 1 (B.gotos.getD n default).1.toNat 0) rfl (by rw [Nat.zero_add]) ?_
    refine d1 23 101 8 rfl rfl rfl rfl rfl rfl trivial ?_
    refine d1 24 109 9 rfl rfl rfl rfl rfl rfl trivial ?_
    refine d1 25 117 10 rfl rfl rfl rfl rfl rfl trivial ?_
    refine d1 26 125 11 rfl rfl rfl rfl rfl rfl (by first | trivial | omega) ?_
    refine d1 27 133 12 rfl rfl rfl rfl rfl rfl trivial ?_
    refine d1 28 141 13 rfl rfl rfl rfl rfl rfl (by first | trivial | omega) ?_
    refine val 28 (.d (.val (.string (B.gotos.getD n default).2))) rfl (by simp only [Nat.zero_add, Int.toNat_natCast]) ?_
    refine dLook (u := (SV.i ((look B.places (B.gotos.getD n default).2).getD 0))) ((look B.places (B.gotos.getD n default).2).map fun n => .val (.int .i64 n)) (mfind_mapE _ _) 29 149 14 rfl rfl rfl rfl rfl rfl rfl rfl rfl rfl rfl rfl rfl rfl (by cases look B.places (B.gotos.getD n default).2 <;> rfl) ?_
    refine d1 5 157 15 rfl rfl rfl rfl rfl rfl trivial ?_
    refine d1 6 165 16 rfl rfl rfl rfl rfl rfl trivial ?_
    refine de1 173 rfl (by kernel_rfl) ?_
    refine keep [0, 5, 6, 10, 11, 12] rfl ?_
    refine r1 ?_
    refine s1 30 173 1 rfl rfl rfl rfl rfl rfl trivial ?_
    refine s1 31 181 2 rfl rfl rfl rfl rfl rfl trivial ?_
    refine s1 32 189 3 rfl rfl rfl rfl rfl rfl trivial ?_
    refine s1 33 197 4 rfl rfl rfl rfl rfl rfl hj ?_
    refine s1 34 205 5 rfl rfl rfl rfl rfl rfl (by first | trivial | omega) ?_
    refine e1 213 rfl ?_
    refine keep [0, 5, 6, 10, 11, 12, 34] rfl ?_
    refine q1 rfl (fun hc5 => ?_) (fun hc5 => ?_)
    · skip
      try simp only [cs, ne_eq] at hc5
      refine r0 ?_
      refine s1 35 213 1 rfl rfl rfl rfl rfl rfl trivial ?_
      refine s1 36 221 2 rfl rfl rfl rfl rfl rfl trivial ?_
      refine s1 37 229 3 rfl rfl rfl rfl rfl rfl trivial ?_
      refine s1 38 237 4 rfl rfl rfl rfl rfl rfl trivial ?_
      refine s0 245 5 rfl rfl rfl rfl rfl hj ?_
      refine e1 253 rfl ?_
      refine bn ?_
      refine tn ?_
      refine rowsc 1 _ (insF (finN B (n + 1))) rfl rfl (fun i c hi hc => by rw [finN_succ B (by omega)]; exact upd_a hc5 i c (by rw [finN_len]; exact hi) hc) ?_
      refine r0 ?_
      refine sA 43 253 1 rfl rfl rfl rfl rfl rfl rfl rfl rfl (by unfold inRange; omega) ?_
      refine s1 12 261 2 rfl rfl rfl rfl rfl rfl trivial ?_
      refine e1 269 rfl ?_
      refine tn ?_
      exact again (n + 1) [0, 1, 2, 3, 4] (by omega) (by omega) rfl ⟨rfl, rfl, rfl, rfl, trivial⟩ ⟨rfl, rfl, rfl, rfl, rfl, trivial⟩
    try simp only [cs, ne_eq] at hc5
    refine r0 ?_
    refine s1 39 213 1 rfl rfl rfl rfl rfl rfl trivial ?_
    refine s1 40 221 2 rfl rfl rfl rfl rfl rfl trivial ?_
    refine s1 41 229 3 rfl rfl rfl rfl rfl rfl trivial ?_
    refine s1 42 237 4 rfl rfl rfl rfl rfl rfl trivial ?_
    refine s0 245 5 rfl rfl rfl rfl rfl hj ?_
    refine e1 253 rfl ?_
    refine bn ?_
    refine tn ?_
    refine rowsc 1 _ (insF (finN B (n + 1))) rfl rfl (fun i c hi hc => by rw [finN_succ B (by omega)]; exact upd_b hc5 i c (by rw [finN_len]; exact hi) hc) ?_
    refine r0 ?_
    refine sA 43 253 1 rfl rfl rfl rfl rfl rfl rfl rfl rfl (by unfold inRange; omega) ?_
    refine s1 12 261 2 rfl rfl rfl rfl rfl rfl trivial ?_
    refine e1 269 rfl ?_
    refine tn ?_
    exact again (n + 1) [0, 1, 2, 3, 4] (by omega) (by omega) rfl ⟨rfl, rfl, rfl, rfl, trivial⟩ ⟨rfl, rfl, rfl, rfl, rfl, trivial⟩
  try simp only [cs, ne_eq] at hc2
  refine W_exit ?_
  refine tx ?_
  refine tx ?_
  refine bx ?_
  refine tn ?_
  refine rowsc 1 (fin B).length (insF (fin B)) rfl (fin_len B).symm (fun i c hi hc => by rw [show n = B.gotos.length by omega, finN_all]) ?_
  refine r1 ?_
  refine s1 44 13 1 rfl rfl rfl rfl rfl rfl trivial ?_
  refine s1 45 21 2 rfl rfl rfl rfl rfl rfl trivial ?_
  refine s1 46 29 3 rfl rfl rfl rfl rfl rfl trivial ?_
  refine s1 47 37 4 rfl rfl rfl rfl rfl rfl (by first | trivial | omega) ?_
  refine s1 2 45 5 rfl rfl rfl rfl rfl rfl trivial ?_
  refine e1 53 rfl ?_
  refine keep [2] rfl ?_
  refine cval 2 (.sl 1 0 (fin B).length) rfl (by rw [fin_len]) ?_
  refine W_ret ?_
  exact out1 2 (.sl 1 0 (fin B).length) (π := [0, 1, 2, 3, 4]) (hout := [some (.cells 114 4 [.sl 1 0 B.ops.length, .map 2, .sl 3 0 B.gotos.length, .map 4]), some (.rows 64 5 (fin B).length (insF (fin B))), some (.map (mapE B.places)), some (.rows 116 2 B.gotos.length (gotoF B.gotos)), some (.map (mapE B.regs))]) Tryd.results36 rfl rfl rfl rfl ⟨rfl, rfl, rfl, rfl, rfl, trivial⟩ ⟨rfl, rfl⟩

theorem mk_succ (l : List ByteArray) {n : Nat} (h : n < l.length) : mk (l.take (n + 1)) = (mk (l.take n)).reg (l.getD n default) := by
  unfold mk
  have : l.getD n default = l[n] := by simp [List.getD, h]
  rw [this, List.take_succ_eq_append_getElem h, List.foldl_append]
  rfl

theorem new_any (l : List ByteArray) (hl : l.length ≤ 100) : Spec Tryd.prog GV 34 [.d (.vec 1 l.length (strsF l))] [] (fun r ho => r = .ptr 0 0 0 ∧ ho = [some (.cells 114 4 [.sl 1 0 (mk l).ops.length, .map 2, .sl 3 0 (mk l).gotos.length, .map 4]), some (.rows 64 5 (mk l).ops.length (insF (mk l).ops)), some (.map (mapE (mk l).places)), some (.rows 116 2 (mk l).gotos.length (gotoF (mk l).gotos)), some (.map (mapE (mk l).regs))]) := by
  refine start 21 0 Tryd.func34 rfl rfl rfl rfl ?_
  refine r1 ?_
  refine s1 2 0 1 rfl rfl rfl rfl rfl rfl trivial ?_
  refine e1 8 rfl ?_
  refine keep [0] rfl ?_
  refine r1 ?_
  refine s1 6 8 1 rfl rfl rfl rfl rfl rfl trivial ?_
  refine s1 7 16 2 rfl rfl rfl rfl rfl rfl trivial ?_
  refine s1 8 24 3 rfl rfl rfl rfl rfl rfl trivial ?_
  refine s1 9 32 4 rfl rfl rfl rfl rfl rfl trivial ?_
  refine s1 3 40 5 rfl rfl rfl rfl rfl rfl trivial ?_
  refine e1 48 rfl ?_
  refine keep [0, 3] rfl ?_
  refine W_seq ?_
  refine cghostly 32 0 64 5 (insF []) rfl rfl rfl ?_
  refine cghostly 32 2 116 2 (gotoF []) rfl rfl rfl ?_
  refine r1 ?_
  refine s1 10 64 1 rfl rfl rfl rfl rfl rfl trivial ?_
  refine s1 11 72 2 rfl rfl rfl rfl rfl rfl (by first | trivial | omega) ?_
  refine s1 12 80 3 rfl rfl rfl rfl rfl rfl trivial ?_
  refine e1 88 rfl ?_
  refine keep [3, 10, 11, 12] rfl ?_
  refine W_block ?_
  refine loop (α := Nat × Bld) 5 (fun z => [(3, .ptr 0 0 0), (10, .d (.vec 1 l.length (strsF l))), (11, SV.i l.length), (12, SV.i z.1)]) (fun z => [some (.cells 114 4 [.sl 1 0 z.2.ops.length, .map 2, .sl 3 0 z.2.gotos.length, .map 4]), some (.rows 64 5 z.2.ops.length (insF z.2.ops)), some (.map (mapE z.2.places)), some (.rows 116 2 z.2.gotos.length (gotoF z.2.gotos)), some (.map (mapE z.2.regs))]) (fun z => z.1 ≤ l.length ∧ z.2 = mk (l.take z.1)) (fun z => l.length - z.1) (((0, mk []) : Nat × Bld)) [32, 48, 8, 56, 16] (fun _ => rfl) ⟨Nat.zero_le _, rfl⟩ rfl ⟨rfl, rfl, rfl, rfl, trivial⟩ ⟨rfl, rfl, rfl, rfl, rfl, trivial⟩ (fun z hx => ?_)
  obtain ⟨n, B⟩ := z
  obtain ⟨hn, hB⟩ := hx
  simp only at hn hB
  refine r1 ?_
  refine s1 13 5 1 rfl rfl rfl rfl rfl rfl (by first | trivial | omega) ?_
  refine e1 13 rfl ?_
  refine keep [3, 10, 11, 12, 13] rfl ?_
  refine W_seq ?_
  refine q1 rfl (fun hc3 => ?_) (fun hc3 => ?_)
  · skip
    try simp only [decide_eq_true_eq, decide_eq_false_iff_not] at hc3
    refine W_skip ?_
    refine tn ?_
    refine W_seq ?_
    refine W_block ?_
    refine r1 ?_
    refine s1 14 13 1 rfl rfl rfl rfl rfl rfl (by first | omega | (simp only [Int.toNat_natCast] at *; omega)) ?_
    refine s1 15 21 2 rfl rfl rfl rfl rfl rfl (by first | omega | (simp only [Int.toNat_natCast] at *; omega)) ?_
    refine s1 5 29 3 rfl rfl rfl rfl rfl rfl trivial ?_
    refine e1 37 rfl ?_
    refine keep [3, 5, 10, 11, 12] rfl ?_
    refine r0 ?_
    refine s1 16 37 1 rfl rfl rfl rfl rfl rfl trivial ?_
    refine s1 17 45 2 rfl rfl rfl rfl rfl rfl trivial ?_
    refine c1 (reg_any B (l.getD n default)) [0, 1, 2, 3, 4] [0, 1, 2, 3, 4] 18 53 3 rfl rfl rfl rfl rfl rfl rfl rfl Tryd.func56 rfl rfl rfl rfl ⟨rfl, rfl, rfl, rfl, rfl, trivial⟩ rfl rfl ?_
    refine e1 61 rfl ?_
    refine bn ?_
    refine tn ?_
    refine r0 ?_
    refine sA 19 61 1 rfl rfl rfl rfl rfl rfl rfl rfl rfl (by unfold inRange; omega) ?_
    refine s1 12 69 2 rfl rfl rfl rfl rfl rfl trivial ?_
    refine e1 77 rfl ?_
    refine tn ?_
    exact again (((n + 1, B.reg (l.getD n default)) : Nat × Bld)) [0, 1, 2, 3, 4] ⟨(by omega), (by rw [hB]; exact (mk_succ l (by omega)).symm)⟩ (by show l.length - (n + 1) < l.length - n; omega) rfl ⟨rfl, rfl, rfl, rfl, trivial⟩ ⟨rfl, rfl, rfl, rfl, rfl, trivial⟩
  try simp only [decide_eq_true_eq, decide_eq_false_iff_not] at hc3
  refine W_exit ?_
  refine tx ?_
  refine tx ?_
  refine bx ?_
  refine tn ?_
  refine r1 ?_
  refine s1 20 13 1 rfl rfl rfl rfl rfl rfl trivial ?_
  refine s1 2 21 2 rfl rfl rfl rfl rfl rfl trivial ?_
  refine e1 29 rfl ?_
  refine keep [2] rfl ?_
  refine W_ret ?_
  obtain rfl : B = mk l := (by rw [hB, List.take_of_length_le (by omega)])
  exact out1 2 (.ptr 0 0 0) (π := [0, 1, 2, 3, 4]) (hout := [some (.cells 114 4 [.sl 1 0 (mk l).ops.length, .map 2, .sl 3 0 (mk l).gotos.length, .map 4]), some (.rows 64 5 (mk l).ops.length (insF (mk l).ops)), some (.map (mapE (mk l).places)), some (.rows 116 2 (mk l).gotos.length (gotoF (mk l).gotos)), some (.map (mapE (mk l).regs))]) Tryd.results34 rfl rfl rfl rfl ⟨rfl, rfl, rfl, rfl, rfl, trivial⟩ ⟨rfl, rfl⟩

theorem nil_any : Spec Tryd.prog GV 34 [.d .nils] [] (fun r ho => r = .ptr 0 0 0 ∧ ho = [some (.cells 114 4 [.sl 1 0 (mk []).ops.length, .map 2, .sl 3 0 (mk []).gotos.length, .map 4]), some (.rows 64 5 (mk []).ops.length (insF (mk []).ops)), some (.map (mapE (mk []).places)), some (.rows 116 2 (mk []).gotos.length (gotoF (mk []).gotos)), some (.map (mapE (mk []).regs))]) :=
  (new_any [] (by decide)).args rfl fun M ρ i x' hx => by
    match i, hx with
    | 0, hx => cases hx; exact ⟨_, rfl, fun u hu => hu.nil_vec⟩
    | n + 1, hx => simp at hx

end Go.Proofs.YtnnjobmiepnedaaDoor.Nice
