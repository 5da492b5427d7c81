/- What the lock of rwl guards is not lost, under any schedule: plain facts on the run of a machine. -/
import Derived.Test.YtnnjobmiepnedaaDoorPlayP
import Derived.Test.YtnnjobmiepnedaaDoorRwlT
namespace Go.Proofs.YtnnjobmiepnedaaDoor.Nice
open Go
set_option linter.unusedVariables false
set_option linter.unusedSimpArgs false
set_option maxRecDepth 100000
set_option maxHeartbeats 4000000
def winL : List Ins := [⟨1, 0, 1, 0, 0⟩, ⟨13, 1, 2, 0, 0⟩, ⟨11, 1, 1, 0, 0⟩, ⟨4, 3, 1, 0, 0⟩, ⟨15, 3, 2, 0, 1⟩, ⟨12, 3, 1, 0, 0⟩]
def woutL : List Ins := [⟨14, 0, 1, 0, 0⟩]
def addL : List Ins := [⟨1, 1, 1, 0, 0⟩, ⟨13, 0, 5, 1, 0⟩, ⟨3, 0, 0, 1, 0⟩, ⟨14, 0, 5, 1, 0⟩]
theorem fin_win : fin B_WriteIn = winL := by kernel_rfl
theorem fin_wout : fin B_WriteOut = woutL := by kernel_rfl
def c3 : List CallD := [⟨0, []⟩, ⟨2, []⟩, ⟨1, []⟩]
def callsL : List CallD := c3 ++ c3 ++ c3 ++ c3 ++ c3 ++ c3
def qM (n : Nat) : Mach := ⟨[0, 0], [winL, woutL, addL], List.replicate n callsL⟩
theorem setR_at (r : Nat → Int) (j v : Int) (k : Nat) : setR r j v k = if k = j.toNat then v else r k := rfl
theorem w_win0 (r : Nat → Int) (w0 w1 e : Int) (told : List Int) : vstep winL [w0, w1] ⟨r, 0, told, e, false⟩ = (⟨setR r 0 1, 1, told, e, false⟩, [w0, w1]) := rfl
theorem w_win1 (r : Nat → Int) (w0 w1 e : Int) (told : List Int) (h2 : r 2 = 0) : vstep winL [w0, w1] ⟨r, 1, told, e, false⟩ = (⟨setR r 1 w0, 2, told, e, false⟩, [w0, w1]) := by
  simp [vstep, vexec, vother, vword, vend, winL, h2, wrp, IntKind.wrap, IntKind.signed, IntKind.bits]
theorem w_win2 (r : Nat → Int) (w0 w1 e : Int) (told : List Int) : vstep winL [w0, w1] ⟨r, 2, told, e, false⟩ = (⟨r, if r 1 ≠ 0 then 1 else 3, told, e, false⟩, [w0, w1]) := by
  by_cases h : r 1 = 0 <;> simp [vstep, vexec, vother, vword, vend, winL, h]
theorem w_win3 (r : Nat → Int) (w0 w1 e : Int) (told : List Int) (h0 : r 0 = 1) (h1 : r 1 = 0) : vstep winL [w0, w1] ⟨r, 3, told, e, false⟩ = (⟨setR r 3 (-1), 4, told, e, false⟩, [w0, w1]) := by
  simp [vstep, vexec, vother, vword, vend, winL, alu, h0, h1, wrp, IntKind.wrap, IntKind.signed, IntKind.bits]
theorem w_win4 (r : Nat → Int) (w0 w1 e : Int) (told : List Int) (h1 : r 1 = 0) (h2 : r 2 = 0) (h3 : r 3 = -1) : vstep winL [w0, w1] ⟨r, 4, told, e, false⟩ = if w0 = 0 then (⟨setR r 3 1, 5, told, e, false⟩, [-1, w1]) else (⟨setR r 3 0, 5, told, e, false⟩, [w0, w1]) := by
  by_cases h : w0 = 0 <;> simp [vstep, vexec, vother, vword, vend, winL, h, h1, h2, h3, wrp, IntKind.wrap, IntKind.signed, IntKind.bits]
theorem w_win5 (r : Nat → Int) (w0 w1 e : Int) (told : List Int) : vstep winL [w0, w1] ⟨r, 5, told, e, false⟩ = (⟨r, if r 3 ≠ 0 then 6 else 1, told, e, if r 3 ≠ 0 then true else false⟩, [w0, w1]) := by
  by_cases h : r 3 = 0 <;> simp [vstep, vexec, vother, vword, vend, winL, h]
theorem w_add0 (r : Nat → Int) (w0 w1 e : Int) (told : List Int) : vstep addL [w0, w1] ⟨r, 0, told, e, false⟩ = (⟨setR r 1 1, 1, told, e, false⟩, [w0, w1]) := rfl
theorem w_add1 (r : Nat → Int) (w0 w1 e : Int) (told : List Int) (h5 : r 5 = 0) : vstep addL [w0, w1] ⟨r, 1, told, e, false⟩ = (⟨setR r 0 w1, 2, told, e, false⟩, [w0, w1]) := by
  simp [vstep, vexec, vother, vword, vend, addL, h5, wrp, IntKind.wrap, IntKind.signed, IntKind.bits]
theorem wrp_in {x : Int} (h : 0 ≤ x ∧ x ≤ 100000) : wrp x = x := by
  unfold wrp; simp [IntKind.wrap, IntKind.signed, IntKind.bits]; omega
theorem w_add2 (r : Nat → Int) (w0 w1 e : Int) (told : List Int) (h0 : r 0 = w1) (h1 : r 1 = 1) (hw : 0 ≤ w1 ∧ w1 ≤ 10000) : vstep addL [w0, w1] ⟨r, 2, told, e, false⟩ = (⟨setR r 0 (w1 + 1), 3, told, e, false⟩, [w0, w1]) := by
  have := wrp_in (x := w1 + 1) (by omega)
  simp [vstep, vexec, vother, vword, vend, addL, alu, h0, h1, this]
theorem w_add3 (r : Nat → Int) (w0 w1 e : Int) (told : List Int) (h5 : r 5 = 0) : vstep addL [w0, w1] ⟨r, 3, told, e, false⟩ = (⟨r, 4, told, e, true⟩, [w0, r 0]) := by
  simp [vstep, vexec, vother, vword, vend, addL, h5, wrp, IntKind.wrap, IntKind.signed, IntKind.bits]
theorem w_out0 (r : Nat → Int) (w0 w1 e : Int) (told : List Int) (h1 : r 1 = 0) : vstep woutL [w0, w1] ⟨r, 0, told, e, false⟩ = (⟨r, 1, told, e, true⟩, [r 0, w1]) := by
  simp [vstep, vexec, vother, vword, vend, woutL, h1, wrp, IntKind.wrap, IntKind.signed, IntKind.bits]
/-- Where a thread is: its registers at each place. -/
structure WinAt (t : Thr) : Prop where
  pc : 0 ≤ t.pc ∧ t.pc ≤ 5
  r2 : t.r 2 = 0
  r0 : 1 ≤ t.pc → t.r 0 = 1
  r1 : t.pc = 3 ∨ t.pc = 4 → t.r 1 = 0
  r3 : t.pc = 4 → t.r 3 = -1
  r5 : t.pc = 5 → t.r 3 = 0 ∨ t.r 3 = 1
structure AddAt (w1 : Int) (t : Thr) : Prop where
  pc : 0 ≤ t.pc ∧ t.pc ≤ 3
  r5 : t.r 5 = 0
  r1 : 1 ≤ t.pc → t.r 1 = 1
  r02 : t.pc = 2 → t.r 0 = w1
  r03 : t.pc = 3 → t.r 0 = w1 + 1
structure OutAt (t : Thr) : Prop where
  pc : t.pc = 0
  r0 : t.r 0 = 0
  r1 : t.r 1 = 0
/-- In which call a thread is: the k-th of its calls. -/
inductive InCall (w1 : Int) (k : Int) : List Ins × Thr → Prop
  | win (t : Thr) (h : WinAt t) (hk : k % 3 = 0) (ho : t.ov = false) : InCall w1 k (winL, t)
  | add (t : Thr) (h : AddAt w1 t) (hk : k % 3 = 1) (ho : t.ov = false) : InCall w1 k (addL, t)
  | out (t : Thr) (h : OutAt t) (hk : k % 3 = 2) (ho : t.ov = false) : InCall w1 k (woutL, t)
def TI (w1 : Int) (s : TS) : Prop := 0 ≤ s.nx ∧ s.nx ≤ 18 ∧ ∀ p, s.cur = some p → 1 ≤ s.nx ∧ InCall w1 (s.nx - 1) p
def holds (s : TS) : Bool := match s.cur with
  | none => decide (s.nx % 3 ≠ 0)
  | some p => if (s.nx - 1) % 3 = 0 then decide (p.2.pc = 5 ∧ p.2.r 3 = 1) else true
def inAdd (s : TS) : Int := match s.cur with
  | none => 0
  | some p => if (s.nx - 1) % 3 = 1 then 1 else 0
theorem inAdd_holds {s : TS} (h : holds s = false) : inAdd s = 0 := by
  unfold holds at h
  unfold inAdd
  cases hc : s.cur with
  | none => rfl
  | some p =>
    rw [hc] at h
    simp only at h ⊢
    by_cases e : (s.nx - 1) % 3 = 0
    · rw [if_neg (by omega)]
    · rw [if_neg e] at h; cases h
theorem inAdd_01 (s : TS) : 0 ≤ inAdd s ∧ inAdd s ≤ 1 := by
  unfold inAdd
  split
  · omega
  · split <;> omega
theorem TI_other {w1 w1' : Int} {s : TS} (h : TI w1 s) (hh : holds s = false) : TI w1' s := by
  obtain ⟨h1, h2, h3⟩ := h
  refine ⟨h1, h2, fun p hp => ?_⟩
  obtain ⟨h0, h4⟩ := h3 p hp
  refine ⟨h0, ?_⟩
  unfold holds at hh
  rw [hp] at hh
  simp only at hh
  cases h4 with
  | win t g hk ho => exact .win t g hk ho
  | add t g hk ho => rw [if_neg (by omega)] at hh; cases hh
  | out t g hk ho => exact .out t g hk ho
/-- What events tell of the additions. -/
def begA : List Ev → Int
  | [] => 0
  | e :: r => (if e.call % 3 = 1 ∧ e.fin = false then 1 else 0) + begA r
def endA : List Ev → Int
  | [] => 0
  | e :: r => (if e.call % 3 = 1 ∧ e.fin = true then 1 else 0) + endA r
theorem begA_app : ∀ (a b : List Ev), begA (a ++ b) = begA a + begA b
  | [], b => by simp [begA]
  | e :: a, b => by simp only [List.cons_append, begA, begA_app a b]; omega
theorem endA_app : ∀ (a b : List Ev), endA (a ++ b) = endA a + endA b
  | [], b => by simp [endA]
  | e :: a, b => by simp only [List.cons_append, endA, endA_app a b]; omega
/-- What one step of a thread does. -/
structure Did (c : Nat) (w0 w1 : Int) (s : TS) (out : List Ev) (x : TS × List Int × List Ev) : Prop where
  got : ∃ w0' w1' evs, x.2.1 = [w0', w1'] ∧ x.2.2 = out ++ evs ∧ TI w1' x.1 ∧ evs.length ≤ c ∧ (∀ e, e ∈ evs → 0 ≤ e.call) ∧
    ((holds x.1 = holds s ∧ w0' = w0) ∨ (holds s = false ∧ holds x.1 = true ∧ w0 = 0 ∧ w0' = -1) ∨ (holds s = true ∧ holds x.1 = false ∧ w0' = 0)) ∧
    (w1' = w1 ∨ (holds s = true ∧ w1' = w1 + 1)) ∧ endA evs = w1' - w1 ∧ begA evs = endA evs + inAdd x.1 - inAdd s
theorem go_did {w0 w1 j step nx : Int} {p : List Ins × Thr} {out : List Ev} (hnx : 1 ≤ nx ∧ nx ≤ 18) (hi : InCall w1 (nx - 1) p) (hw : 0 ≤ w1 ∧ w1 ≤ 10000) : Did 1 w0 w1 ⟨nx, some p⟩ out (pgo j step nx p.1 p.2 [w0, w1] out) := by
  cases hi with
  | win t h hk ho =>
    obtain ⟨r, pc, told, e, ov⟩ := t
    obtain ⟨h1, h2, h3, h4, h5, h6⟩ := h
    simp only at h1 h2 h3 h4 h5 h6 ho
    subst ho
    have go : ∀ (t' : Thr) (w0' : Int), vstep winL [w0, w1] ⟨r, pc, told, e, false⟩ = (t', [w0', w1]) → t'.ov = false → WinAt t' → ((holds ⟨nx, some (winL, t')⟩ = holds ⟨nx, some (winL, ⟨r, pc, told, e, false⟩)⟩ ∧ w0' = w0) ∨ (holds ⟨nx, some (winL, ⟨r, pc, told, e, false⟩)⟩ = false ∧ holds ⟨nx, some (winL, t')⟩ = true ∧ w0 = 0 ∧ w0' = -1)) →
        Did 1 w0 w1 ⟨nx, some (winL, ⟨r, pc, told, e, false⟩)⟩ out (pgo j step nx winL ⟨r, pc, told, e, false⟩ [w0, w1] out) := by
      intro t' w0' hs hov hat hh
      unfold pgo
      rw [hs, if_neg (by rw [hov]; decide)]
      refine ⟨w0', w1, [], rfl, by simp, ⟨by simp only; omega, hnx.2, fun p hp => by cases hp; exact ⟨hnx.1, .win t' hat hk hov⟩⟩, by simp, by simp, hh.elim .inl (fun h => .inr (.inl h)), .inl rfl, by simp [endA], ?_⟩
      simp [begA, endA, inAdd, hk]
    have hold : ∀ (r' : Nat → Int) (pc' : Int), holds ⟨nx, some (winL, ⟨r', pc', told, e, false⟩)⟩ = decide (pc' = 5 ∧ r' 3 = 1) := by
      intro r' pc'; unfold holds; simp only; rw [if_pos hk]
    rcases (show pc = 0 ∨ pc = 1 ∨ pc = 2 ∨ pc = 3 ∨ pc = 4 ∨ pc = 5 by omega) with rfl | rfl | rfl | rfl | rfl | rfl
    · refine go _ _ (w_win0 r w0 w1 e told) rfl ⟨by simp, by simp [setR_at, h2], by simp [setR_at], by simp, by simp, by simp⟩ (.inl ⟨by rw [hold, hold]; simp, rfl⟩)
    · refine go _ _ (w_win1 r w0 w1 e told h2) rfl ⟨by simp, by simp [setR_at, h2], fun _ => by simp [setR_at, h3], by simp, by simp, by simp⟩ (.inl ⟨by rw [hold, hold]; simp, rfl⟩)
    · by_cases hr : r 1 = 0
      · refine go _ _ (by rw [w_win2 r w0 w1 e told, if_neg (by simp [hr])]) rfl ⟨by simp, h2, fun _ => h3 (by omega), fun _ => hr, by simp, by simp⟩ (.inl ⟨by rw [hold, hold]; simp, rfl⟩)
      · refine go _ _ (by rw [w_win2 r w0 w1 e told, if_pos hr]) rfl ⟨by simp, h2, fun _ => h3 (by omega), by simp, by simp, by simp⟩ (.inl ⟨by rw [hold, hold]; simp, rfl⟩)
    · refine go _ _ (w_win3 r w0 w1 e told (h3 (by omega)) (h4 (by omega))) rfl ⟨by simp, by simp [setR_at, h2], fun _ => by simp [setR_at, h3], fun _ => by simp [setR_at, h4], fun _ => by simp [setR_at], by simp⟩ (.inl ⟨by rw [hold, hold]; simp, rfl⟩)
    · have hs := w_win4 r w0 w1 e told (h4 (by omega)) h2 (h5 rfl)
      by_cases hw0 : w0 = 0
      · rw [if_pos hw0] at hs
        refine go _ _ hs rfl ⟨by simp, by simp [setR_at, h2], fun _ => by simp [setR_at, h3], by simp, by simp, fun _ => .inr (by simp [setR_at])⟩ (.inr ⟨by rw [hold]; simp, by rw [hold]; simp [setR_at], hw0, rfl⟩)
      · rw [if_neg hw0] at hs
        refine go _ _ hs rfl ⟨by simp, by simp [setR_at, h2], fun _ => by simp [setR_at, h3], by simp, by simp, fun _ => .inl (by simp [setR_at])⟩ (.inl ⟨by rw [hold, hold]; simp [setR_at], rfl⟩)
    · have hs := w_win5 r w0 w1 e told
      rcases h6 rfl with hr | hr
      · have hs2 : vstep winL [w0, w1] ⟨r, 5, told, e, false⟩ = (⟨r, 1, told, e, false⟩, [w0, w1]) := by rw [hs]; simp [hr]
        refine go _ _ hs2 rfl ⟨by simp, h2, fun _ => h3 (by omega), by simp, by simp, by simp⟩ (.inl ⟨by rw [hold, hold]; simp [hr], rfl⟩)
      · unfold pgo
        have hs2 : vstep winL [w0, w1] ⟨r, 5, told, e, false⟩ = (⟨r, 6, told, e, true⟩, [w0, w1]) := by rw [hs]; simp [hr]
        simp only
        rw [hs2, if_pos rfl]
        refine ⟨w0, w1, [_], rfl, rfl, ⟨by simp only; omega, hnx.2, fun p hp => by cases hp⟩, by simp, (by intro e he; rw [List.mem_singleton.1 he]; show 0 ≤ nx - 1; omega), .inl ⟨?_, rfl⟩, .inl rfl, ?_, ?_⟩
        · rw [hold]; unfold holds; simp only [hr, and_self, decide_true]; rw [decide_eq_true_eq]; omega
        · simp [endA, hk]
        · simp [begA, endA, inAdd, hk]
  | add t h hk ho =>
    obtain ⟨r, pc, told, e, ov⟩ := t
    obtain ⟨h1, h2, h3, h4, h5⟩ := h
    simp only at h1 h2 h3 h4 h5 ho
    subst ho
    have hold : ∀ p : List Ins × Thr, holds ⟨nx, some p⟩ = true := by
      intro p; unfold holds; simp only; rw [if_neg (by omega)]
    have go : ∀ (t' : Thr), vstep addL [w0, w1] ⟨r, pc, told, e, false⟩ = (t', [w0, w1]) → t'.ov = false → AddAt w1 t' →
        Did 1 w0 w1 ⟨nx, some (addL, ⟨r, pc, told, e, false⟩)⟩ out (pgo j step nx addL ⟨r, pc, told, e, false⟩ [w0, w1] out) := by
      intro t' hs hov hat
      unfold pgo
      rw [hs, if_neg (by rw [hov]; decide)]
      refine ⟨w0, w1, [], rfl, by simp, ⟨by simp only; omega, hnx.2, fun p hp => by cases hp; exact ⟨hnx.1, .add t' hat hk hov⟩⟩, by simp, by simp, .inl ⟨by rw [hold, hold], rfl⟩, .inl rfl, by simp [endA], ?_⟩
      simp [begA, endA, inAdd, hk]
    rcases (show pc = 0 ∨ pc = 1 ∨ pc = 2 ∨ pc = 3 by omega) with rfl | rfl | rfl | rfl
    · exact go _ (w_add0 r w0 w1 e told) rfl ⟨by simp, by simp [setR_at, h2], by simp [setR_at], by simp, by simp⟩
    · exact go _ (w_add1 r w0 w1 e told h2) rfl ⟨by simp, by simp [setR_at, h2], fun _ => by simp [setR_at, h3], fun _ => by simp [setR_at], by simp⟩
    · exact go _ (w_add2 r w0 w1 e told (h4 rfl) (h3 (by omega)) hw) rfl ⟨by simp, by simp [setR_at, h2], fun _ => by simp [setR_at, h3], by simp, fun _ => by simp [setR_at]⟩
    · unfold pgo
      simp only
      rw [w_add3 r w0 w1 e told h2, if_pos rfl, h5 rfl]
      refine ⟨w0, w1 + 1, [_], rfl, rfl, ⟨by simp only; omega, hnx.2, fun p hp => by cases hp⟩, by simp, (by intro e he; rw [List.mem_singleton.1 he]; show 0 ≤ nx - 1; omega), .inl ⟨?_, rfl⟩, .inr ⟨hold _, rfl⟩, ?_, ?_⟩
      · rw [hold]; unfold holds; simp only; rw [decide_eq_true_eq]; omega
      · simp [endA, hk]; omega
      · simp [begA, endA, inAdd, hk]
  | out t h hk ho =>
    obtain ⟨r, pc, told, e, ov⟩ := t
    obtain ⟨h1, h2, h3⟩ := h
    simp only at h1 h2 h3 ho
    subst ho; subst h1
    unfold pgo
    simp only
    rw [w_out0 r w0 w1 e told h3, if_pos rfl, h2]
    refine ⟨0, w1, [_], rfl, rfl, ⟨by simp only; omega, hnx.2, fun p hp => by cases hp⟩, by simp, (by intro e he; rw [List.mem_singleton.1 he]; show 0 ≤ nx - 1; omega), .inr (.inr ⟨?_, ?_, rfl⟩), .inl rfl, ?_, ?_⟩
    · unfold holds; simp only; rw [if_neg (by omega)]
    · unfold holds; simp only; rw [decide_eq_false_iff_not]; omega
    · simp [endA, hk]
    · simp [begA, endA, inAdd, hk]
theorem calls_at {n j : Nat} (hj : j < n) : (qM n).ts.getD j [] = callsL := by
  show (List.replicate n callsL).getD j [] = _
  rw [List.getD_eq_getElem?_getD, List.getElem?_replicate, if_pos hj]; rfl
theorem call_k {nx : Int} (h : 0 ≤ nx ∧ nx < 18) : callsL.getD nx.toNat default = if nx % 3 = 0 then ⟨0, []⟩ else if nx % 3 = 1 then ⟨2, []⟩ else ⟨1, []⟩ := by
  obtain ⟨k, rfl⟩ := Int.eq_ofNat_of_zero_le h.1
  have hk : k < 18 := by omega
  rw [Int.toNat_natCast]
  have key : ∀ k : Nat, k < 18 → callsL.getD k default = if (k : Int) % 3 = 0 then ⟨0, []⟩ else if (k : Int) % 3 = 1 then ⟨2, []⟩ else ⟨1, []⟩ := by
    intro k hk
    match k, hk with
    | 0, _ | 1, _ | 2, _ | 3, _ | 4, _ | 5, _ | 6, _ | 7, _ | 8, _ | 9, _ | 10, _ | 11, _ | 12, _ | 13, _ | 14, _ | 15, _ | 16, _ | 17, _ => rfl
    | k + 18, h => exact absurd h (by omega)
  exact key k hk
theorem body_did {n j : Nat} (hj : j < n) {w0 w1 step : Int} {s : TS} {out : List Ev} (ht : TI w1 s) (hw : 0 ≤ w1 ∧ w1 ≤ 10000) : Did 2 w0 w1 s out (pbody (qM n) j step s [w0, w1] out) := by
  obtain ⟨nx, cur⟩ := s
  obtain ⟨h0, h18, hc⟩ := ht
  simp only at h0 h18 hc
  cases cur with
  | some p =>
    obtain ⟨h1, hi⟩ := hc p rfl
    obtain ⟨⟨w0', w1', evs, g1, g2, g3, g4, g⟩⟩ := go_did (j := j) (step := step) (out := out) (w0 := w0) (p := p) ⟨h1, h18⟩ hi hw
    exact ⟨w0', w1', evs, g1, g2, g3, by omega, g⟩
  | none =>
    unfold pbody
    simp only
    by_cases hlt : nx < ((qM n).ts.getD j []).length
    · rw [if_pos hlt]
      rw [calls_at hj] at hlt
      have hlt : nx < 18 := hlt
      have hcall : callAt (qM n) j nx = if nx % 3 = 0 then ⟨0, []⟩ else if nx % 3 = 1 then ⟨2, []⟩ else ⟨1, []⟩ := by
        unfold callAt; rw [calls_at hj]; exact call_k ⟨h0, hlt⟩
      have mid : ∀ p : List Ins × Thr, codeOf (qM n) j nx = p.1 → vnew (codeOf (qM n) j nx) (callAt (qM n) j nx).args = p.2 → InCall w1 nx p → holds ⟨nx + 1, some p⟩ = holds ⟨nx, none⟩ →
          Did 2 w0 w1 ⟨nx, none⟩ out (pgo j step (nx + 1) (codeOf (qM n) j nx) (vnew (codeOf (qM n) j nx) (callAt (qM n) j nx).args) [w0, w1] (out ++ [⟨step, j, nx, false, 0, []⟩])) := by
        intro p e1 e2 hi hh
        rw [e2, e1]
        obtain ⟨⟨w0', w1', evs, g1, g2, g3, g4, gc, g5, g6, g7, g8⟩⟩ := go_did (j := j) (step := step) (out := out ++ [⟨step, j, nx, false, 0, []⟩]) (w0 := w0) (show 1 ≤ nx + 1 ∧ nx + 1 ≤ 18 by omega) (by rw [show nx + 1 - 1 = nx by omega]; exact hi) hw
        rw [hh] at g5 g6
        have hl : (pgo j step (nx + 1) p.1 p.2 [w0, w1] (out ++ [⟨step, j, nx, false, 0, []⟩])).2.2 = out ++ ([⟨step, j, nx, false, 0, []⟩] ++ evs) := by rw [g2, List.append_assoc]
        refine ⟨w0', w1', [⟨step, j, nx, false, 0, []⟩] ++ evs, g1, hl, g3, ?_, (by intro e he; rcases List.mem_append.1 he with he | he; (rw [List.mem_singleton.1 he]; exact h0); exact gc e he), g5, g6, ?_, ?_⟩
        · rw [List.length_append]; simp; omega
        · rw [endA_app, g7]; simp [endA]
        · rw [begA_app, endA_app, g8]
          simp only [begA, endA, inAdd]
          simp
          by_cases e : nx % 3 = 1
          · simp [e]; omega
          · simp [e]
      have hk3 : nx % 3 = 0 ∨ nx % 3 = 1 ∨ nx % 3 = 2 := by omega
      rcases hk3 with e | e | e
      · have hcd : callAt (qM n) j nx = ⟨0, []⟩ := by rw [hcall, if_pos e]
        have hco : codeOf (qM n) j nx = winL := by unfold codeOf; rw [hcd]; rfl
        refine mid (winL, vnew winL []) hco (by rw [hco, hcd]) (.win _ ⟨by simp [vnew], rfl, by simp [vnew], by simp [vnew], by simp [vnew], by simp [vnew]⟩ e rfl) ?_
        unfold holds; simp only; rw [if_pos (by omega)]; simp [vnew, e]
      · have hcd : callAt (qM n) j nx = ⟨2, []⟩ := by rw [hcall, if_neg (by omega), if_pos e]
        have hco : codeOf (qM n) j nx = addL := by unfold codeOf; rw [hcd]; rfl
        refine mid (addL, vnew addL []) hco (by rw [hco, hcd]) (.add _ ⟨by simp [vnew], rfl, by simp [vnew], by simp [vnew], by simp [vnew]⟩ e rfl) ?_
        unfold holds; simp only; rw [if_neg (by omega)]; simp [e]
      · have hcd : callAt (qM n) j nx = ⟨1, []⟩ := by rw [hcall, if_neg (by omega), if_neg (by omega)]
        have hco : codeOf (qM n) j nx = woutL := by unfold codeOf; rw [hcd]; rfl
        refine mid (woutL, vnew woutL []) hco (by rw [hco, hcd]) (.out _ ⟨rfl, rfl, rfl⟩ e rfl) ?_
        unfold holds; simp only; rw [if_neg (by omega)]; simp [e]
    · rw [if_neg hlt]
      exact ⟨w0, w1, [], rfl, by simp, ⟨h0, h18, fun p hp => by cases hp⟩, by simp, by simp, .inl ⟨rfl, rfl⟩, .inl rfl, by simp [endA], by simp [begA, endA]⟩
def sumAdd : List TS → Int
  | [] => 0
  | s :: r => inAdd s + sumAdd r
theorem sum_set : ∀ (l : List TS) (j : Nat) (s : TS), j < l.length → sumAdd (l.set j s) = sumAdd l - inAdd (l.getD j ⟨0, none⟩) + inAdd s
  | a :: l, 0, s, _ => by simp [sumAdd]; omega
  | a :: l, j + 1, s, h => by
    have := sum_set l j s (by simpa using h)
    simp only [List.set_cons_succ, sumAdd, this, List.getD_cons_succ]; omega
/-- What holds between two steps. -/
structure GI (n : Nat) (k : Nat) (s : PS) : Prop where
  ws : ∃ w0 w1, s.ws = [w0, w1] ∧ 0 ≤ w1 ∧ w1 ≤ k ∧ w1 = endA s.out ∧ begA s.out = endA s.out + sumAdd s.ts ∧ (∀ j, j < n → TI w1 (s.ts.getD j ⟨0, none⟩)) ∧
    ((w0 = 0 ∧ ∀ j, j < n → holds (s.ts.getD j ⟨0, none⟩) = false) ∨ (w0 = -1 ∧ ∃ i, i < n ∧ holds (s.ts.getD i ⟨0, none⟩) = true ∧ ∀ j, j < n → j ≠ i → holds (s.ts.getD j ⟨0, none⟩) = false))
  ts : s.ts.length = n
  out : s.out.length ≤ 3 * k
  call : ∀ e, e ∈ s.out → 0 ≤ e.call
theorem getD_set {l : List TS} {i j : Nat} {s : TS} (hi : i < l.length) : (l.set i s).getD j ⟨0, none⟩ = if i = j then s else l.getD j ⟨0, none⟩ := by
  rw [List.getD_eq_getElem?_getD, List.getD_eq_getElem?_getD, List.getElem?_set]
  by_cases e : i = j
  · subst e; simp [hi]
  · simp [e]
theorem step_gi {n k : Nat} {s : PS} {j : Nat} (hj : j < n) (hk : k ≤ 5000) (h : GI n k s) : GI n (k + 1) (pstep (qM n) j k s) := by
  obtain ⟨⟨w0, w1, h1, h2, h3, h4, h5, h6, h7⟩, hts, hout, hcall⟩ := h
  obtain ⟨⟨w0', w1', evs, g1, g2, g3, g4, gc, g5, g6, g7, g8⟩⟩ := body_did (w0 := w0) (step := (k : Int)) (out := s.out) hj (h6 j hj) (by omega)
  rw [← h1] at g1 g2 g3 g5 g8
  unfold pstep
  generalize pbody (qM n) j (k : Int) (s.ts.getD j ⟨0, none⟩) s.ws s.out = x at g1 g2 g3 g5 g8
  have hjl : j < s.ts.length := by omega
  have get : ∀ i, (s.ts.set j x.1).getD i ⟨0, none⟩ = if j = i then x.1 else s.ts.getD i ⟨0, none⟩ := fun i => getD_set hjl
  refine ⟨⟨w0', w1', g1, by omega, by omega, ?_, ?_, fun i hi => ?_, ?_⟩, ?_, ?_, ?_⟩
  · show w1' = endA x.2.2
    rw [g2, endA_app]; omega
  · show begA x.2.2 = endA x.2.2 + sumAdd (s.ts.set j x.1)
    rw [g2, endA_app, begA_app, sum_set s.ts j x.1 hjl]; omega
  · show TI w1' ((s.ts.set j x.1).getD i ⟨0, none⟩)
    rw [get]
    by_cases e : j = i
    · rw [if_pos e]; exact g3
    · rw [if_neg e]
      rcases g6 with rfl | ⟨g6, rfl⟩
      · exact h6 i hi
      · refine TI_other (h6 i hi) ?_
        rcases h7 with ⟨_, h7⟩ | ⟨_, i0, hi0, hh, h7⟩
        · exact h7 i hi
        · have : i0 = j := by
            apply Classical.byContradiction; intro hne
            rw [h7 j hj (fun e => hne e.symm)] at g6; cases g6
          subst this
          exact h7 i hi (fun e2 => e e2.symm)
  · rcases g5 with ⟨g5, rfl⟩ | ⟨g5, g5', rfl, rfl⟩ | ⟨g5, g5', rfl⟩
    · rcases h7 with ⟨rfl, h7⟩ | ⟨rfl, i0, hi0, hh, h7⟩
      · refine .inl ⟨rfl, fun i hi => ?_⟩
        show holds ((s.ts.set j x.1).getD i ⟨0, none⟩) = false
        rw [get]
        by_cases e : j = i
        · rw [if_pos e, g5]; exact h7 j hj
        · rw [if_neg e]; exact h7 i hi
      · refine .inr ⟨rfl, i0, hi0, ?_, fun i hi hne => ?_⟩
        · show holds ((s.ts.set j x.1).getD i0 ⟨0, none⟩) = true
          rw [get]
          by_cases e : j = i0
          · rw [if_pos e, g5, e]; exact hh
          · rw [if_neg e]; exact hh
        · show holds ((s.ts.set j x.1).getD i ⟨0, none⟩) = false
          rw [get]
          by_cases e : j = i
          · rw [if_pos e, g5, e]; exact h7 i hi hne
          · rw [if_neg e]; exact h7 i hi hne
    · rcases h7 with ⟨_, h7⟩ | ⟨h, _⟩
      · refine .inr ⟨rfl, j, hj, ?_, fun i hi hne => ?_⟩
        · show holds ((s.ts.set j x.1).getD j ⟨0, none⟩) = true
          rw [get, if_pos rfl]; exact g5'
        · show holds ((s.ts.set j x.1).getD i ⟨0, none⟩) = false
          rw [get, if_neg (fun e => hne e.symm)]; exact h7 i hi
      · cases h
    · refine .inl ⟨rfl, fun i hi => ?_⟩
      show holds ((s.ts.set j x.1).getD i ⟨0, none⟩) = false
      rw [get]
      by_cases e : j = i
      · rw [if_pos e]; exact g5'
      · rw [if_neg e]
        rcases h7 with ⟨_, h7⟩ | ⟨_, i0, hi0, hh, h7⟩
        · exact h7 i hi
        · have : i0 = j := by
            apply Classical.byContradiction; intro hne
            rw [h7 j hj (fun e => hne e.symm)] at g5; cases g5
          subst this
          exact h7 i hi (fun e2 => e e2.symm)
  · show (s.ts.set j x.1).length = n
    rw [List.length_set]; exact hts
  · show x.2.2.length ≤ _
    rw [g2, List.length_append]; omega
  · show ∀ e, e ∈ x.2.2 → 0 ≤ e.call
    rw [g2]; intro e he
    rcases List.mem_append.1 he with he | he
    · exact hcall e he
    · exact gc e he
theorem run_gi {n : Nat} : ∀ (sc : List Int) (k : Nat) (s : PS), (∀ v, v ∈ sc → 0 ≤ v ∧ v < n) → k + sc.length ≤ 5000 → GI n k s → GI n (k + sc.length) (prun (qM n) sc k s)
  | [], k, s, _, _, h => h
  | v :: r, k, s, hb, hk, h => by
    unfold prun
    have hv := hb v (List.mem_cons_self ..)
    simp only [List.length_cons] at hk ⊢
    have := run_gi r (k + 1) _ (fun u hu => hb u (List.mem_cons_of_mem _ hu)) (by omega) (step_gi (j := v.toNat) (by omega) (by omega) h)
    rw [show k + (r.length + 1) = k + 1 + r.length by omega]; exact this
theorem init_gi (n : Nat) : GI n 0 (pinit (qM n)) := by
  have hts : (pinit (qM n)).ts = List.replicate n ⟨0, none⟩ := by
    show ((List.replicate n callsL).map fun _ => (⟨0, none⟩ : TS)) = _
    simp
  have get : ∀ j, (pinit (qM n)).ts.getD j ⟨0, none⟩ = ⟨0, none⟩ := by
    intro j; rw [hts, List.getD_eq_getElem?_getD, List.getElem?_replicate]; split <;> rfl
  have sum : ∀ m : Nat, sumAdd (List.replicate m ⟨0, none⟩) = 0 := by
    intro m; induction m with
    | zero => rfl
    | succ m ih => rw [List.replicate_succ]; simp only [sumAdd, ih]; rfl
  refine ⟨⟨0, 0, rfl, by omega, by omega, rfl, ?_, fun j hj => ?_, .inl ⟨rfl, fun j hj => ?_⟩⟩, by rw [hts, List.length_replicate], Nat.le_refl _, fun e he => by cases he⟩
  · rw [hts, sum]; rfl
  · rw [get]; exact ⟨by simp, by simp, fun p hp => by cases hp⟩
  · rw [get]; rfl
theorem sum_one : ∀ (l : List TS), (∀ i j, i < l.length → j < l.length → i ≠ j → holds (l.getD i ⟨0, none⟩) = true → holds (l.getD j ⟨0, none⟩) = false) → sumAdd l ≤ 1
  | [], _ => by simp [sumAdd]
  | a :: l, h => by
    have ih := sum_one l (fun i j hi hj hne hh => by have := h (i + 1) (j + 1) (by simpa using hi) (by simpa using hj) (by omega) (by simpa using hh); simpa using this)
    cases ha : holds a with
    | false => simp only [sumAdd, inAdd_holds ha]; omega
    | true =>
      have all : ∀ m : List TS, (∀ j, j < m.length → holds (m.getD j ⟨0, none⟩) = false) → sumAdd m = 0 := by
        intro m; induction m with
        | nil => intro _; rfl
        | cons b m ihm =>
          intro hm
          have h0 := hm 0 (by simp)
          simp only [List.getD_cons_zero] at h0
          simp only [sumAdd, inAdd_holds h0, ihm (fun j hj => by have := hm (j + 1) (by simpa using hj); simpa using this)]; rfl
      have hl : sumAdd l = 0 := all l (fun j hj => by have := h 0 (j + 1) (by simp) (by simpa using hj) (by omega) (by simpa using ha); simpa using this)
      have := inAdd_01 a
      simp only [sumAdd, hl]; omega
theorem mach_q (n : Nat) (h1 : 1 ≤ n) (h4 : n ≤ 4) : machB (qM n) = true := by
  rcases (show n = 1 ∨ n = 2 ∨ n = 3 ∨ n = 4 by omega) with rfl | rfl | rfl | rfl <;> decide +kernel
/-- What a run comes to. -/
theorem played_keeps {n : Nat} (h1 : 1 ≤ n) (h4 : n ≤ 4) (sc : List Int) (hl : sc.length ≤ 3000) (hb : ∀ v, v ∈ sc → 0 ≤ v ∧ v < n) :
    (played (qM n) sc).e = 0 ∧ (∃ w0, (played (qM n) sc).ws = [w0, endA (played (qM n) sc).out]) ∧ begA (played (qM n) sc).out - endA (played (qM n) sc).out ≤ 1 ∧ (played (qM n) sc).out.length ≤ 9000 ∧ 0 ≤ endA (played (qM n) sc).out ∧ endA (played (qM n) sc).out ≤ 3000 ∧ 0 ≤ begA (played (qM n) sc).out ∧ begA (played (qM n) sc).out ≤ 3001 ∧ ∀ e, e ∈ (played (qM n) sc).out → 0 ≤ e.call := by
  have hnb : sc.any (bad (qM n)) = false := by
    rw [List.any_eq_false]; intro v hv
    have := hb v hv
    unfold bad
    rw [show (qM n).ts.length = n from List.length_replicate ..]
    simp; omega
  have hp : played (qM n) sc = ⟨(prun (qM n) sc 0 (pinit (qM n))).out, (prun (qM n) sc 0 (pinit (qM n))).ws, 0⟩ := by
    unfold played
    rw [if_neg (by rw [mach_q n h1 h4]; decide), if_neg (by omega), if_neg (by rw [hnb]; decide)]
  have hg := run_gi sc 0 (pinit (qM n)) hb (by omega) (init_gi n)
  rw [hp]
  obtain ⟨⟨w0, w1, g1, g2, g3, g4, g5, g6, g7⟩, gt, go, gcl⟩ := hg
  have hs : sumAdd (prun (qM n) sc 0 (pinit (qM n))).ts ≤ 1 := by
    refine sum_one _ fun i j hi hj hne hh => ?_
    rw [gt] at hi hj
    rcases g7 with ⟨_, g7⟩ | ⟨_, i0, hi0, hh0, g7⟩
    · exact g7 j hj
    · by_cases e : i = i0
      · subst e; exact g7 j hj (fun e2 => hne e2.symm)
      · rw [g7 i hi e] at hh; cases hh
  have h0 : 0 ≤ sumAdd (prun (qM n) sc 0 (pinit (qM n))).ts := by
    have : ∀ l : List TS, 0 ≤ sumAdd l := by
      intro l; induction l with
      | nil => exact Int.le_refl _
      | cons a l ih => have := inAdd_01 a; simp only [sumAdd]; omega
    exact this _
  refine ⟨rfl, ⟨w0, by rw [← g4]; exact g1⟩, ?_, ?_, ?_, ?_, ?_, ?_, gcl⟩ <;> simp only <;> omega

end Go.Proofs.YtnnjobmiepnedaaDoor.Nice
