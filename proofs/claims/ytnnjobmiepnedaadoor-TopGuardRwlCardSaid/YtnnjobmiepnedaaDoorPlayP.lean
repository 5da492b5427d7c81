/- Threads beside each other, as plain functions. -/
import Derived.Test.YtnnjobmiepnedaaDoorVmRunW
import Derived.Test.YtnnjobmiepnedaaDoorNiceS
namespace Go.Proofs.YtnnjobmiepnedaaDoor.Nice
open Go
set_option linter.unusedVariables false
set_option linter.unusedSimpArgs false
set_option maxRecDepth 100000
set_option maxHeartbeats 4000000
structure Ev where
  st : Int
  th : Int
  call : Int
  fin : Bool
  code : Int
  told : List Int
  deriving Inhabited
def evC (e : Ev) : Nat → D
  | 0 => .val (.int .i64 e.st)
  | 1 => .val (.int .i64 e.th)
  | 2 => .val (.int .i64 e.call)
  | 3 => .val (.bool e.fin)
  | 4 => .val (.int .i64 e.code)
  | 5 => .vec 1 e.told.length (intsF e.told)
  | _ => .any
def evF (l : List Ev) : Nat → Nat → D := fun i c => evC (l.getD i default) c
def evV (l : List Ev) : SV := .d (.vec 6 l.length (evF l))
def evB (l : List Ev) : Blk := .rows 50 6 l.length (evF l)
structure TS where
  nx : Int
  cur : Option (List Ins × Thr)
structure PS where
  ws : List Int
  out : List Ev
  ts : List TS
def pgo (j step nx : Int) (C : List Ins) (t : Thr) (ws : List Int) (out : List Ev) : TS × List Int × List Ev :=
  if (vstep C ws t).1.ov = true then (⟨nx, none⟩, (vstep C ws t).2, out ++ [⟨step, j, nx - 1, true, (vstep C ws t).1.e, (vstep C ws t).1.told⟩])
  else (⟨nx, some (C, (vstep C ws t).1)⟩, (vstep C ws t).2, out)
def callAt (q : Mach) (j : Nat) (n : Int) : CallD := (q.ts.getD j []).getD n.toNat default
def codeOf (q : Mach) (j : Nat) (n : Int) : List Ins := q.cs.getD (callAt q j n).code.toNat []
def pbody (q : Mach) (j : Nat) (step : Int) (s : TS) (ws : List Int) (out : List Ev) : TS × List Int × List Ev :=
  match s.cur with
  | some (C, t) => pgo j step s.nx C t ws out
  | none => if s.nx < (q.ts.getD j []).length then pgo j step (s.nx + 1) (codeOf q j s.nx) (vnew (codeOf q j s.nx) (callAt q j s.nx).args) ws (out ++ [⟨step, j, s.nx, false, 0, []⟩]) else (s, ws, out)
def pstep (q : Mach) (j : Nat) (step : Int) (s : PS) : PS :=
  ⟨(pbody q j step (s.ts.getD j ⟨0, none⟩) s.ws s.out).2.1, (pbody q j step (s.ts.getD j ⟨0, none⟩) s.ws s.out).2.2, s.ts.set j (pbody q j step (s.ts.getD j ⟨0, none⟩) s.ws s.out).1⟩
def prun (q : Mach) : List Int → Nat → PS → PS
  | [], _, s => s
  | v :: r, k, s => prun q r (k + 1) (pstep q v.toNat k s)
def bad (q : Mach) (v : Int) : Bool := decide (v < 0) || decide ((q.ts.length : Int) ≤ v)
structure PRes where
  out : List Ev
  ws : List Int
  e : Int
def pinit (q : Mach) : PS := ⟨q.ws, [], q.ts.map fun _ => ⟨0, none⟩⟩
def played (q : Mach) (sc : List Int) : PRes :=
  if machB q = false then ⟨[], [], 4⟩ else if 6000 < sc.length then ⟨[], [], 1⟩ else if sc.any (bad q) = true then ⟨[], [], 2⟩ else ⟨(prun q sc 0 (pinit q)).out, (prun q sc 0 (pinit q)).ws, 0⟩
/-- A thread in a call. -/
structure Live (m : Nat) (C : List Ins) (t : Thr) (ws : List Int) : Prop where
  c : mayB C = true
  ok : ThrOk C m (t, ws)
theorem ev_cat (l : List Ev) (a b c : Int) (f : Bool) (e : Int) (told : List Int) (i k : Nat) (hi : i < l.length + 1) (hk : k < 6) : catR (evF l) l.length (litR 6 [.val (.int .i64 a), .val (.int .i64 b), .val (.int .i64 c), .val (.bool f), .val (.int .i64 e), .vec 1 told.length (intsF told)]) i k = evF (l ++ [⟨a, b, c, f, e, told⟩]) i k := by
  unfold catR evF litR
  by_cases h : i < l.length
  · rw [if_pos h]; simp [List.getD, List.getElem?_append_left h]
  · obtain rfl : i = l.length := by omega
    rw [if_neg (Nat.lt_irrefl _), Nat.sub_self, Nat.zero_mul, Nat.zero_add]
    have : (l ++ [(⟨a, b, c, f, e, told⟩ : Ev)]).getD l.length default = (⟨a, b, c, f, e, told⟩ : Ev) := by simp [List.getD]
    rw [this]
    match k, hk with
    | 0, _ | 1, _ | 2, _ | 3, _ | 4, _ | 5, _ => rfl
theorem ev_cat0 (l : List Ev) (a b c : Int) (i k : Nat) (hi : i < l.length + 1) (hk : k < 6) (M : Imm) (v : Value) (h : DR M (catR (evF l) l.length (litR 6 [.val (.int .i64 a), .val (.int .i64 b), .val (.int .i64 c), .val (.bool false), .val (.int .i64 0), .nils]) i k) v) : DR M (evF (l ++ [⟨a, b, c, false, 0, []⟩]) i k) v := by
  rw [← ev_cat l a b c false 0 [] i k hi hk]
  unfold catR at h ⊢
  split at h
  · next e => rw [if_pos e]; exact h
  · next e =>
    rw [if_neg e]
    obtain rfl : i = l.length := by omega
    rw [Nat.sub_self] at h ⊢
    unfold litR at h ⊢
    rw [Nat.zero_mul, Nat.zero_add] at h ⊢
    match k, hk with
    | 0, _ | 1, _ | 2, _ | 3, _ | 4, _ => exact h
    | 5, _ =>
      have h : DR M .nils v := h
      cases h with | nils a => exact .vec0 _ _ _ _

end Go.Proofs.YtnnjobmiepnedaaDoor.Nice
