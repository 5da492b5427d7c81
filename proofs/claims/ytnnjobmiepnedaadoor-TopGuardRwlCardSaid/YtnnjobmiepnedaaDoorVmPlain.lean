/- A thread's instructions: the plain functions. -/
import Derived.Test.YtnnjobmiepnedaaDoorRunMay
import Derived.Test.YtnnjobmiepnedaaDoorNiceR
namespace Go.Proofs.YtnnjobmiepnedaaDoor.Nice
open Go
set_option linter.unusedVariables false
set_option linter.unusedSimpArgs false
set_option maxRecDepth 100000
set_option maxHeartbeats 4000000
def intsV (l : List Int) : SV := .d (.vec 1 l.length (intsF l))
def intsB (l : List Int) : Blk := .rows 3 1 l.length (intsF l)
def wrp (x : Int) : Int := IntKind.i64.wrap x
def setR (r : Nat → Int) (j v : Int) : Nat → Int := fun k => if k = j.toNat then v else r k
structure Thr where
  r : Nat → Int
  pc : Int
  told : List Int
  e : Int
  ov : Bool
def thrX (c : SV) (r : Nat → Int) (pc : Int) (tl : SV) (e : Int) (ov : Bool) : List SV := [c, SV.i (r 0), SV.i (r 1), SV.i (r 2), SV.i (r 3), SV.i (r 4), SV.i (r 5), SV.i (r 6), SV.i (r 7), SV.i (r 8), SV.i (r 9), SV.i (r 10), SV.i (r 11), SV.i (r 12), SV.i (r 13), SV.i (r 14), SV.i (r 15), SV.i (r 16), SV.i (r 17), SV.i (r 18), SV.i (r 19), SV.i (r 20), SV.i (r 21), SV.i (r 22), SV.i (r 23), SV.i pc, tl, SV.i e, SV.b ov]
def thrL (C : List Ins) (t : Thr) : List SV := thrX (insV C) t.r t.pc (.sl 1 0 t.told.length) t.e t.ov
def thrYB (q : Nat) (C : List Ins) (t : Thr) : Blk := .cells 88 29 (thrX (insV C) t.r t.pc (.sl q 0 t.told.length) t.e t.ov)
def thrBlk (C : List Ins) (t : Thr) : Blk := .cells 88 29 (thrL C t)
theorem thrX_get (c : SV) (r : Nat → Int) (pc : Int) (tl : SV) (e : Int) (ov : Bool) {j : Int} (h : 0 ≤ j ∧ j < 24) : (thrX c r pc tl e ov)[0 * 29 + (1 + j.toNat * 1)]? = some (SV.i (r j.toNat)) := by
  obtain ⟨n, rfl⟩ := Int.eq_ofNat_of_zero_le h.1
  have hn : n < 24 := by omega
  rw [Int.toNat_natCast]
  have key : ∀ m, m < 24 → (thrX c r pc tl e ov)[0 * 29 + (1 + m * 1)]? = some (SV.i (r m)) := by
    intro m hm
    match m, hm with
    | 0, _ | 1, _ | 2, _ | 3, _ | 4, _ | 5, _ | 6, _ | 7, _ | 8, _ | 9, _ | 10, _ | 11, _ | 12, _ | 13, _ | 14, _ | 15, _ | 16, _ | 17, _ | 18, _ | 19, _ | 20, _ | 21, _ | 22, _ | 23, _ => rfl
    | m + 24, h => exact absurd h (by omega)
  exact key n hn
theorem thrX_len (c : SV) (r : Nat → Int) (pc : Int) (tl : SV) (e : Int) (ov : Bool) {j : Int} (h : 0 ≤ j ∧ j < 24) : 0 * 29 + (1 + j.toNat * 1) < (thrX c r pc tl e ov).length := by
  show _ < 29
  omega
theorem thrX_set (c : SV) (r : Nat → Int) (pc : Int) (tl : SV) (e : Int) (ov : Bool) {j : Int} (v : Int) (h : 0 ≤ j ∧ j < 24) : (thrX c r pc tl e ov).set (0 * 29 + (1 + j.toNat * 1)) (SV.i v) = thrX c (setR r j v) pc tl e ov := by
  obtain ⟨n, rfl⟩ := Int.eq_ofNat_of_zero_le h.1
  have hn : n < 24 := by omega
  unfold setR
  rw [Int.toNat_natCast]
  have key : ∀ m, m < 24 → (thrX c r pc tl e ov).set (0 * 29 + (1 + m * 1)) (SV.i v) = thrX c (fun k => if k = m then v else r k) pc tl e ov := by
    intro m hm
    match m, hm with
    | 0, _ | 1, _ | 2, _ | 3, _ | 4, _ | 5, _ | 6, _ | 7, _ | 8, _ | 9, _ | 10, _ | 11, _ | 12, _ | 13, _ | 14, _ | 15, _ | 16, _ | 17, _ | 18, _ | 19, _ | 20, _ | 21, _ | 22, _ | 23, _ => rfl
    | m + 24, h => exact absurd h (by omega)
  exact key n hn
theorem ints_set (l : List Int) (n : Nat) (v : Int) (hn : n < l.length) (i c : Nat) (hi : i < l.length) (hc : c < 1) : updR (intsF l) n 0 [.val (.int .i64 v)] i c = intsF (l.set n v) i c := by
  obtain rfl : c = 0 := by omega
  unfold updR intsF
  by_cases h : i = n
  · subst h; simp [List.getD, hi]
  · rw [if_neg (fun e => h e.1)]
    simp [List.getD, Ne.symm h]
theorem ints_cat (l : List Int) (v : Int) (i c : Nat) (hi : i < l.length + 1) (hc : c < 1) : catR (intsF l) l.length (litR 1 [.val (.int .i64 v)]) i c = intsF (l ++ [v]) i c := by
  obtain rfl : c = 0 := by omega
  unfold catR intsF litR
  by_cases h : i < l.length
  · rw [if_pos h]; simp [List.getD, List.getElem?_append_left h]
  · obtain rfl : i = l.length := by omega
    rw [if_neg (Nat.lt_irrefl _)]; simp [List.getD]
/-- What an instruction names. -/
structure Fit (sz : Int) (o : Ins) : Prop where
  k : 1 ≤ o.k ∧ o.k ≤ 17
  a : o.k ≠ 10 → o.k ≠ 17 → 0 ≤ o.a ∧ o.a < 24
  a10 : o.k = 10 → 0 ≤ o.a ∧ o.a ≤ sz
  b : (2 ≤ o.k ∧ o.k ≤ 9) ∨ (13 ≤ o.k ∧ o.k ≤ 15) → 0 ≤ o.b ∧ o.b < 24
  b11 : 11 ≤ o.k ∧ o.k ≤ 12 → 0 ≤ o.b ∧ o.b ≤ sz
  c : 3 ≤ o.k ∧ o.k ≤ 9 → 0 ≤ o.c ∧ o.c < 24
  d : o.k = 15 → 0 ≤ o.d ∧ o.d < 24
theorem fit_of {sz : Int} {o : Ins} (h : okB sz o = true) : Fit sz o := by
  obtain ⟨k, a, b, c, d⟩ := o
  have hk : 1 ≤ k ∧ k ≤ 17 := by
    unfold okB at h; simp at h; exact ⟨h.1.1, h.1.2⟩
  have e : k = 1 ∨ k = 2 ∨ k = 3 ∨ k = 4 ∨ k = 5 ∨ k = 6 ∨ k = 7 ∨ k = 8 ∨ k = 9 ∨ k = 10 ∨ k = 11 ∨ k = 12 ∨ k = 13 ∨ k = 14 ∨ k = 15 ∨ k = 16 ∨ k = 17 := by omega
  unfold okB at h
  rw [Bool.and_eq_true] at h
  have h := h.2
  simp only [Bool.and_eq_true] at h
  obtain ⟨⟨ha, hb⟩, ⟨hc, hd⟩⟩ := h
  rcases e with rfl | rfl | rfl | rfl | rfl | rfl | rfl | rfl | rfl | rfl | rfl | rfl | rfl | rfl | rfl | rfl | rfl
  all_goals
    refine ⟨by constructor <;> simp, ?_, ?_, ?_, ?_, ?_, ?_⟩ <;>
    first
    | (intro h; exact absurd h (by simp only []; decide))
    | (intro h h2; exact absurd h (by simp only []; decide))
    | (intro h h2; exact absurd h2 (by simp only []; decide))
    | (intro _ _; have := ha; unfold fitsB at this; rw [if_pos (by decide)] at this; simp at this; exact this)
    | (intro _; have := ha; unfold fitsB at this; rw [if_neg (by decide), if_pos (by decide)] at this; simp at this; exact this)
    | (intro _; have := hb; unfold fitsB at this; rw [if_pos (by decide)] at this; simp at this; exact this)
    | (intro _; have := hb; unfold fitsB at this; rw [if_neg (by decide), if_pos (by decide)] at this; simp at this; exact this)
    | (intro _; have := hc; unfold fitsB at this; rw [if_pos (by decide)] at this; simp at this; exact this)
    | (intro _; have := hd; unfold fitsB at this; rw [if_pos (by decide)] at this; simp at this; exact this)
theorem fit_at {C : List Ins} (h : mayB C = true) {n : Nat} (hn : n < C.length) : Fit C.length (C.getD n default) := by
  unfold mayB at h
  rw [Bool.and_eq_true, List.all_eq_true] at h
  rw [getD_lt hn]
  exact fit_of (h.2 _ (List.getElem_mem hn))
def boolI (b : Bool) : Int := if b = true then 1 else 0
def quoI (a b : Int) (rest : Bool) : Int := if b = 0 then 0 else if rest = true then a.tmod b else wrp (a.tdiv b)
/-- What kinds 2 to 9 put into a register. -/
def alu (o : Ins) (r : Nat → Int) : Int :=
  if o.k = 1 then o.b else if o.k = 2 then r o.b.toNat else if o.k = 3 then wrp (r o.b.toNat + r o.c.toNat) else if o.k = 4 then wrp (r o.b.toNat - r o.c.toNat) else if o.k = 5 then wrp (r o.b.toNat * r o.c.toNat)
  else if o.k = 6 then quoI (r o.b.toNat) (r o.c.toNat) false else if o.k = 7 then quoI (r o.b.toNat) (r o.c.toNat) true
  else if o.k = 8 then boolI (decide (r o.b.toNat = r o.c.toNat)) else boolI (decide (r o.b.toNat < r o.c.toNat))
def vword (o : Ins) (n : Nat) (ws : List Int) (t : Thr) : Thr × List Int :=
  if o.k = 13 then (⟨setR t.r o.a (ws.getD n 0), t.pc, t.told, t.e, t.ov⟩, ws)
  else if o.k = 14 then (t, ws.set n (t.r o.a.toNat))
  else if o.k = 15 then
    if ws.getD n 0 = t.r o.d.toNat then (⟨setR t.r o.a 1, t.pc, t.told, t.e, t.ov⟩, ws.set n (t.r o.a.toNat)) else (⟨setR t.r o.a 0, t.pc, t.told, t.e, t.ov⟩, ws)
  else (t, ws)
def vother (o : Ins) (ws : List Int) (t : Thr) : Thr × List Int :=
  if o.k = 10 then (⟨t.r, o.a, t.told, t.e, t.ov⟩, ws)
  else if o.k = 11 ∨ o.k = 12 then (if (t.r o.a.toNat ≠ 0 ↔ o.k = 11) then ⟨t.r, o.b, t.told, t.e, t.ov⟩ else t, ws)
  else if o.k = 16 then (if t.told.length = 200 then ⟨t.r, t.pc, t.told, 8, true⟩ else ⟨t.r, t.pc, t.told ++ [t.r o.a.toNat], t.e, t.ov⟩, ws)
  else if o.k = 17 then (⟨t.r, t.pc, t.told, t.e, true⟩, ws)
  else if wrp (t.r o.b.toNat + o.c) < 0 ∨ (ws.length : Int) ≤ wrp (t.r o.b.toNat + o.c) then (⟨t.r, t.pc, t.told, 2, true⟩, ws)
  else vword o (wrp (t.r o.b.toNat + o.c)).toNat ws t
def vexec (o : Ins) (ws : List Int) (t : Thr) : Thr × List Int := if o.k ≤ 9 then (⟨setR t.r o.a (alu o t.r), t.pc, t.told, t.e, t.ov⟩, ws) else vother o ws t
def vend (n : Nat) (p : Thr × List Int) : Thr × List Int := (⟨p.1.r, p.1.pc, p.1.told, p.1.e, p.1.ov || decide (p.1.pc = n)⟩, p.2)
def vstep (C : List Ins) (ws : List Int) (t : Thr) : Thr × List Int :=
  if t.ov = true then (t, ws) else vend C.length (vexec (C.getD t.pc.toNat default) ws ⟨t.r, t.pc + 1, t.told, t.e, t.ov⟩)
def insS (o : Ins) : SV := .agg [SV.i o.k, SV.i o.a, SV.i o.b, SV.i o.c, SV.i o.d]
def insL (o : Ins) : List SV := [SV.i o.k, SV.i o.a, SV.i o.b, SV.i o.c, SV.i o.d]

end Go.Proofs.YtnnjobmiepnedaaDoor.Nice
