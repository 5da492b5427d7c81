/- The record that one writes and others read: what its code keeps, and that its histories could be one behind the other. -/
import Derived.Test.YtnnjobmiepnedaaDoorZMHi
import Derived.Test.YtnnjobmiepnedaaDoorZCellT
import Derived.Test.YtnnjobmiepnedaaDoorZSure
namespace Go.Proofs.YtnnjobmiepnedaaDoor.Nice
open Go
set_option linter.unusedVariables false
set_option linter.unusedSimpArgs false
set_option maxRecDepth 100000
set_option maxHeartbeats 4000000
def lputL : List Ins := [⟨1, 1, 1, 0, 0⟩, ⟨13, 2, 3, 0, 0⟩, ⟨3, 2, 2, 1, 0⟩, ⟨14, 2, 3, 0, 0⟩, ⟨14, 0, 3, 1, 0⟩, ⟨3, 2, 2, 1, 0⟩, ⟨14, 2, 3, 0, 0⟩]
def lgetL : List Ins := [⟨1, 0, 2, 0, 0⟩, ⟨13, 1, 2, 0, 0⟩, ⟨7, 3, 1, 0, 0⟩, ⟨11, 3, 1, 0, 0⟩, ⟨13, 4, 2, 1, 0⟩, ⟨13, 5, 2, 0, 0⟩, ⟨8, 6, 1, 5, 0⟩, ⟨12, 6, 1, 0, 0⟩, ⟨16, 4, 0, 0, 0⟩]
theorem fin_lput : fin (B_Put 1) = lputL := by kernel_rfl
theorem fin_lget : fin (B_Get 1) = lgetL := by kernel_rfl
def lM : Mach := ⟨[0, 0], [lputL, lgetL], [[⟨0, [5]⟩, ⟨0, [6]⟩, ⟨0, [7]⟩], [⟨1, []⟩, ⟨1, []⟩, ⟨1, []⟩], [⟨1, []⟩, ⟨1, []⟩, ⟨1, []⟩]]⟩
theorem lM_len {j : Nat} (hj : j < 3) : (lM.ts.getD j []).length = 3 := by
  rcases (show j = 0 ∨ j = 1 ∨ j = 2 by omega) with rfl | rfl | rfl <;> rfl
theorem lM_call {j : Nat} {n : Int} (hj : j < 3) (h0 : 0 ≤ n) (h1 : n < 3) : callAt lM j n = if j = 0 then ⟨0, [5 + n]⟩ else ⟨1, []⟩ := by
  rcases (show j = 0 ∨ j = 1 ∨ j = 2 by omega) with rfl | rfl | rfl <;> rcases (show n = 0 ∨ n = 1 ∨ n = 2 by omega) with rfl | rfl | rfl <;> rfl
theorem wrp_sm {x : Int} (h : 0 ≤ x ∧ x ≤ 100000) : wrp x = x := by
  unfold wrp; simp [IntKind.wrap, IntKind.signed, IntKind.bits]; omega
theorem l_put0 (r : Nat → Int) (g v e : Int) (told : List Int) : vstep lputL [g, v] ⟨r, 0, told, e, false⟩ = (⟨setR r 1 1, 1, told, e, false⟩, [g, v]) := rfl
theorem l_put1 (r : Nat → Int) (g v e : Int) (told : List Int) (h : r 3 = 0) : vstep lputL [g, v] ⟨r, 1, told, e, false⟩ = (⟨setR r 2 g, 2, told, e, false⟩, [g, v]) := by
  simp [vstep, vexec, vother, vword, vend, lputL, h, wrp, IntKind.wrap, IntKind.signed, IntKind.bits]
theorem l_put2 (r : Nat → Int) (g v e : Int) (told : List Int) : vstep lputL [g, v] ⟨r, 2, told, e, false⟩ = (⟨setR r 2 (wrp (r 2 + r 1)), 3, told, e, false⟩, [g, v]) := rfl
theorem l_put3 (r : Nat → Int) (g v e : Int) (told : List Int) (h : r 3 = 0) : vstep lputL [g, v] ⟨r, 3, told, e, false⟩ = (⟨r, 4, told, e, false⟩, [r 2, v]) := by
  simp [vstep, vexec, vother, vword, vend, lputL, h, wrp, IntKind.wrap, IntKind.signed, IntKind.bits]
theorem l_put4 (r : Nat → Int) (g v e : Int) (told : List Int) (h : r 3 = 0) : vstep lputL [g, v] ⟨r, 4, told, e, false⟩ = (⟨r, 5, told, e, false⟩, [g, r 0]) := by
  simp [vstep, vexec, vother, vword, vend, lputL, h, wrp, IntKind.wrap, IntKind.signed, IntKind.bits]
theorem l_put5 (r : Nat → Int) (g v e : Int) (told : List Int) : vstep lputL [g, v] ⟨r, 5, told, e, false⟩ = (⟨setR r 2 (wrp (r 2 + r 1)), 6, told, e, false⟩, [g, v]) := rfl
theorem l_put6 (r : Nat → Int) (g v e : Int) (told : List Int) (h : r 3 = 0) : vstep lputL [g, v] ⟨r, 6, told, e, false⟩ = (⟨r, 7, told, e, true⟩, [r 2, v]) := by
  simp [vstep, vexec, vother, vword, vend, lputL, h, wrp, IntKind.wrap, IntKind.signed, IntKind.bits]
theorem l_get0 (r : Nat → Int) (g v e : Int) (told : List Int) : vstep lgetL [g, v] ⟨r, 0, told, e, false⟩ = (⟨setR r 0 2, 1, told, e, false⟩, [g, v]) := rfl
theorem l_get1 (r : Nat → Int) (g v e : Int) (told : List Int) (h : r 2 = 0) : vstep lgetL [g, v] ⟨r, 1, told, e, false⟩ = (⟨setR r 1 g, 2, told, e, false⟩, [g, v]) := by
  simp [vstep, vexec, vother, vword, vend, lgetL, h, wrp, IntKind.wrap, IntKind.signed, IntKind.bits]
theorem l_get2 (r : Nat → Int) (g v e : Int) (told : List Int) (h : r 0 = 2) : vstep lgetL [g, v] ⟨r, 2, told, e, false⟩ = (⟨setR r 3 ((r 1).tmod 2), 3, told, e, false⟩, [g, v]) := by
  simp [vstep, vexec, vother, vword, vend, lgetL, alu, quoI, h]
theorem l_get3 (r : Nat → Int) (g v e : Int) (told : List Int) : vstep lgetL [g, v] ⟨r, 3, told, e, false⟩ = (⟨r, if r 3 = 0 then 4 else 1, told, e, false⟩, [g, v]) := by
  by_cases h : r 3 = 0 <;> simp [vstep, vexec, vother, vword, vend, lgetL, h]
theorem l_get4 (r : Nat → Int) (g v e : Int) (told : List Int) (h : r 2 = 0) : vstep lgetL [g, v] ⟨r, 4, told, e, false⟩ = (⟨setR r 4 v, 5, told, e, false⟩, [g, v]) := by
  simp [vstep, vexec, vother, vword, vend, lgetL, h, wrp, IntKind.wrap, IntKind.signed, IntKind.bits]
theorem l_get5 (r : Nat → Int) (g v e : Int) (told : List Int) (h : r 2 = 0) : vstep lgetL [g, v] ⟨r, 5, told, e, false⟩ = (⟨setR r 5 g, 6, told, e, false⟩, [g, v]) := by
  simp [vstep, vexec, vother, vword, vend, lgetL, h, wrp, IntKind.wrap, IntKind.signed, IntKind.bits]
theorem l_get6 (r : Nat → Int) (g v e : Int) (told : List Int) : vstep lgetL [g, v] ⟨r, 6, told, e, false⟩ = (⟨setR r 6 (if r 1 = r 5 then 1 else 0), 7, told, e, false⟩, [g, v]) := by
  by_cases h : r 1 = r 5 <;> simp [vstep, vexec, vother, vword, vend, lgetL, alu, boolI, h]
theorem l_get7 (r : Nat → Int) (g v e : Int) (told : List Int) : vstep lgetL [g, v] ⟨r, 7, told, e, false⟩ = (⟨r, if r 6 = 0 then 1 else 8, told, e, false⟩, [g, v]) := by
  by_cases h : r 6 = 0 <;> simp [vstep, vexec, vother, vword, vend, lgetL, h]
theorem l_get8 (r : Nat → Int) (g v e : Int) : vstep lgetL [g, v] ⟨r, 8, [], e, false⟩ = (⟨r, 9, [r 4], e, true⟩, [g, v]) := by
  simp [vstep, vexec, vother, vword, vend, lgetL]
/-- Where a thread in a call is; g: the number that counts the puts, v: what lies there. -/
inductive LAt (g v : Int) (j : Nat) (n : Int) (r : Nat → Int) : List Ins → Int → Option Lf → Prop
  | p0 (hj : j = 0) (h0 : r 0 = 5 + n) (h3 : r 3 = 0) (hg : g = 2 * n) : LAt g v j n r lputL 0 none
  | p1 (hj : j = 0) (h0 : r 0 = 5 + n) (h3 : r 3 = 0) (hg : g = 2 * n) (h1 : r 1 = 1) : LAt g v j n r lputL 1 none
  | p2 (hj : j = 0) (h0 : r 0 = 5 + n) (h3 : r 3 = 0) (hg : g = 2 * n) (h1 : r 1 = 1) (h2 : r 2 = 2 * n) : LAt g v j n r lputL 2 none
  | p3 (hj : j = 0) (h0 : r 0 = 5 + n) (h3 : r 3 = 0) (hg : g = 2 * n) (h1 : r 1 = 1) (h2 : r 2 = 2 * n + 1) : LAt g v j n r lputL 3 none
  | p4 (hj : j = 0) (h0 : r 0 = 5 + n) (h3 : r 3 = 0) (hg : g = 2 * n + 1) (h1 : r 1 = 1) (h2 : r 2 = 2 * n + 1) : LAt g v j n r lputL 4 none
  | p5 (hj : j = 0) (h3 : r 3 = 0) (hg : g = 2 * n + 1) (h1 : r 1 = 1) (h2 : r 2 = 2 * n + 1) (f : Lf) (hf : f = ⟨true, 5 + n, 0, 5 + n⟩) : LAt g v j n r lputL 5 (some f)
  | p6 (hj : j = 0) (h3 : r 3 = 0) (hg : g = 2 * n + 1) (h2 : r 2 = 2 * n + 2) (f : Lf) (hf : f = ⟨true, 5 + n, 0, 5 + n⟩) : LAt g v j n r lputL 6 (some f)
  | g0 (hj : j ≠ 0) (h2 : r 2 = 0) : LAt g v j n r lgetL 0 none
  | g1 (hj : j ≠ 0) (h2 : r 2 = 0) (h0 : r 0 = 2) : LAt g v j n r lgetL 1 none
  | g2 (hj : j ≠ 0) (h2 : r 2 = 0) (h0 : r 0 = 2) (h1 : 0 ≤ r 1 ∧ r 1 ≤ g) : LAt g v j n r lgetL 2 none
  | g3 (hj : j ≠ 0) (h2 : r 2 = 0) (h0 : r 0 = 2) (h1 : 0 ≤ r 1 ∧ r 1 ≤ g) (h3 : r 3 = r 1 % 2) : LAt g v j n r lgetL 3 none
  | g4 (hj : j ≠ 0) (h2 : r 2 = 0) (h0 : r 0 = 2) (h1 : 0 ≤ r 1 ∧ r 1 ≤ g) (he : r 1 % 2 = 0) : LAt g v j n r lgetL 4 none
  | g5 (hj : j ≠ 0) (h2 : r 2 = 0) (h0 : r 0 = 2) (h1 : 0 ≤ r 1 ∧ r 1 ≤ g) (he : r 1 % 2 = 0) (hv : g = r 1 → v = r 4) : LAt g v j n r lgetL 5 none
  | g6y (hj : j ≠ 0) (h2 : r 2 = 0) (h5 : r 1 = r 5) (x : Int) (hx : x = r 4) : LAt g v j n r lgetL 6 (some ⟨false, 0, 0, x⟩)
  | g6n (hj : j ≠ 0) (h2 : r 2 = 0) (h0 : r 0 = 2) (h5 : ¬ r 1 = r 5) : LAt g v j n r lgetL 6 none
  | g7y (hj : j ≠ 0) (h2 : r 2 = 0) (h6 : r 6 = 1) (x : Int) (hx : x = r 4) : LAt g v j n r lgetL 7 (some ⟨false, 0, 0, x⟩)
  | g7n (hj : j ≠ 0) (h2 : r 2 = 0) (h0 : r 0 = 2) (h6 : r 6 = 0) : LAt g v j n r lgetL 7 none
  | g8 (hj : j ≠ 0) (x : Int) (hx : x = r 4) : LAt g v j n r lgetL 8 (some ⟨false, 0, 0, x⟩)
def lTA (ws : List Int) (g : Int) (j : Nat) (n : Int) (C : List Ins) (t : Thr) (f : Option Lf) : Prop := t.ov = false ∧ t.told = [] ∧ LAt g (ws.getD 1 0) j n t.r C t.pc f
def lSh (ws : List Int) (ob : Lin.Ob) (g : Int) : Prop := ∃ v, ws = [g, v] ∧ ob = .reg v ∧ 0 ≤ g ∧ g ≤ 6
def lIdle (g : Int) (j : Nat) (n : Int) : Prop := j = 0 → g = 2 * n
def lFit (c : CallD) (f : Lf) : Prop := (c.code = 0 ∧ f.p = true ∧ f.v = c.args.getD 0 0 ∧ f.r = c.args.getD 0 0) ∨ (c.code = 1 ∧ f.p = false)
def lTl (c : CallD) (f : Lf) (told : List Int) : Prop := c.code = 1 → told = [f.r]
/-- What a step of the writer does not spoil. -/
theorem lAt_keep {g v g' v' : Int} {j : Nat} {n : Int} {r : Nat → Int} {C : List Ins} {pc : Int} {f : Option Lf} (hj : j ≠ 0) (hg : (g' = g ∧ (v' = v ∨ g % 2 = 1)) ∨ g < g') (h : LAt g v j n r C pc f) : LAt g' v' j n r C pc f := by
  cases h with
  | p0 h => exact absurd h hj
  | p1 h => exact absurd h hj
  | p2 h => exact absurd h hj
  | p3 h => exact absurd h hj
  | p4 h => exact absurd h hj
  | p5 h => exact absurd h hj
  | p6 h => exact absurd h hj
  | g0 _ h2 => exact .g0 hj h2
  | g1 _ h2 h0 => exact .g1 hj h2 h0
  | g2 _ h2 h0 h1 => exact .g2 hj h2 h0 (by omega)
  | g3 _ h2 h0 h1 h3 => exact .g3 hj h2 h0 (by omega) h3
  | g4 _ h2 h0 h1 he => exact .g4 hj h2 h0 (by omega) he
  | g5 _ h2 h0 h1 he hv =>
    refine .g5 hj h2 h0 (by omega) he fun e => ?_
    rcases hg with ⟨h3, h4 | h4⟩ | h3
    · rw [h4]; exact hv (by omega)
    · omega
    · omega
  | g6y _ h2 h5 x hx => exact .g6y hj h2 h5 x hx
  | g6n _ h2 h0 h5 => exact .g6n hj h2 h0 h5
  | g7y _ h2 h6 x hx => exact .g7y hj h2 h6 x hx
  | g7n _ h2 h0 h6 => exact .g7n hj h2 h0 h6
  | g8 _ x hx => exact .g8 hj x hx
theorem l_step {ws : List Int} {ob : Lin.Ob} {g : Int} {j : Nat} {n : Int} {c : CallD} {C : List Ins} {t : Thr} {f : Option Lf} (h0 : 0 ≤ n) (hn : n < 3) (hc : c = if j = 0 then ⟨0, [5 + n]⟩ else ⟨1, []⟩) (hs : lSh ws ob g) (ht : lTA ws g j n C t f) :
    ∃ g' ob' f', (f' = f ∧ ob' = ob ∨ f = none ∧ ∃ x, f' = some x ∧ Lin.onext ob (fAct x) = (ob', x.r) ∧ lFit c x) ∧ lSh (vstep C ws t).2 ob' g' ∧
      ((vstep C ws t).1.ov = false → lTA (vstep C ws t).2 g' j n C (vstep C ws t).1 f') ∧ ((vstep C ws t).1.ov = true → lIdle g' j (n + 1) ∧ ∃ x, f' = some x ∧ lTl c x (vstep C ws t).1.told) ∧
      (g' = g ∧ ((vstep C ws t).2 = ws ∨ j = 0 ∧ g % 2 = 1) ∨ j = 0 ∧ g < g') := by
  obtain ⟨v, rfl, rfl, hg0, hg6⟩ := hs
  obtain ⟨r, pc, told, e, ov⟩ := t
  obtain ⟨hov, htl, hat⟩ := ht
  simp only at hov htl
  subst hov; subst htl
  have hat : LAt g v j n r C pc f := hat
  have sh : ∃ v', [g, v] = [g, v'] ∧ Lin.Ob.reg v = .reg v' ∧ 0 ≤ g ∧ g ≤ 6 := ⟨v, rfl, rfl, hg0, hg6⟩
  cases hat with
  | p0 hj h0 h3 hg =>
    rw [l_put0 r g v e []]
    exact ⟨g, _, _, .inl ⟨rfl, rfl⟩, sh, fun _ => ⟨rfl, rfl, .p1 (r := setR r 1 1) hj h0 h3 hg rfl⟩, fun h => (by cases h), .inl ⟨rfl, .inl rfl⟩⟩
  | p1 hj h0 h3 hg h1 =>
    rw [l_put1 r g v e [] h3]
    exact ⟨g, _, _, .inl ⟨rfl, rfl⟩, sh, fun _ => ⟨rfl, rfl, .p2 (r := setR r 2 g) hj h0 h3 hg h1 hg⟩, fun h => (by cases h), .inl ⟨rfl, .inl rfl⟩⟩
  | p2 hj h0 h3 hg h1 h2 =>
    rw [l_put2 r g v e []]
    refine ⟨g, _, _, .inl ⟨rfl, rfl⟩, sh, fun _ => ⟨rfl, rfl, .p3 (r := setR r 2 (wrp (r 2 + r 1))) hj h0 h3 hg h1 ?_⟩, fun h => (by cases h), .inl ⟨rfl, .inl rfl⟩⟩
    show wrp (r 2 + r 1) = _
    rw [h1, h2, wrp_sm (by omega)]
  | p3 hj h0 h3 hg h1 h2 =>
    rw [l_put3 r g v e [] h3]
    refine ⟨2 * n + 1, _, _, .inl ⟨rfl, rfl⟩, ⟨v, by rw [h2], rfl, by omega, by omega⟩, fun _ => ⟨rfl, rfl, .p4 hj h0 h3 rfl h1 h2⟩, fun h => (by cases h), .inr ⟨hj, by omega⟩⟩
  | p4 hj h0 h3 hg h1 h2 =>
    rw [l_put4 r g v e [] h3]
    refine ⟨g, .reg (5 + n), some ⟨true, 5 + n, 0, 5 + n⟩, .inr ⟨rfl, _, rfl, rfl, .inl ?_⟩, ⟨r 0, rfl, by rw [h0], hg0, hg6⟩, fun _ => ⟨rfl, rfl, .p5 hj h3 hg h1 h2 _ rfl⟩, fun h => (by cases h), .inl ⟨rfl, .inr ⟨hj, by omega⟩⟩⟩
    rw [hc, if_pos hj]; exact ⟨rfl, rfl, rfl, rfl⟩
  | p5 hj h3 hg h1 h2 f hf =>
    rw [l_put5 r g v e []]
    refine ⟨g, _, _, .inl ⟨rfl, rfl⟩, sh, fun _ => ⟨rfl, rfl, .p6 (r := setR r 2 (wrp (r 2 + r 1))) hj h3 hg ?_ f hf⟩, fun h => (by cases h), .inl ⟨rfl, .inl rfl⟩⟩
    show wrp (r 2 + r 1) = _
    rw [h1, h2, wrp_sm (by omega)]; omega
  | p6 hj h3 hg h2 f hf =>
    rw [l_put6 r g v e [] h3]
    refine ⟨2 * n + 2, _, _, .inl ⟨rfl, rfl⟩, ⟨v, by rw [h2], rfl, by omega, by omega⟩, fun h => (by cases h), fun _ => ⟨fun _ => by omega, f, rfl, fun hc1 => ?_⟩, .inr ⟨hj, by omega⟩⟩
    rw [hc, if_pos hj] at hc1; cases hc1
  | g0 hj h2 =>
    rw [l_get0 r g v e []]
    exact ⟨g, _, _, .inl ⟨rfl, rfl⟩, sh, fun _ => ⟨rfl, rfl, .g1 (r := setR r 0 2) hj h2 rfl⟩, fun h => (by cases h), .inl ⟨rfl, .inl rfl⟩⟩
  | g1 hj h2 h0 =>
    rw [l_get1 r g v e [] h2]
    exact ⟨g, _, _, .inl ⟨rfl, rfl⟩, sh, fun _ => ⟨rfl, rfl, .g2 (r := setR r 1 g) hj h2 h0 ⟨hg0, Int.le_refl _⟩⟩, fun h => (by cases h), .inl ⟨rfl, .inl rfl⟩⟩
  | g2 hj h2 h0 h1 =>
    rw [l_get2 r g v e [] h0]
    exact ⟨g, _, _, .inl ⟨rfl, rfl⟩, sh, fun _ => ⟨rfl, rfl, .g3 (r := setR r 3 ((r 1).tmod 2)) hj h2 h0 h1 (Int.tmod_eq_emod_of_nonneg h1.1)⟩, fun h => (by cases h), .inl ⟨rfl, .inl rfl⟩⟩
  | g3 hj h2 h0 h1 h3 =>
    rw [l_get3 r g v e []]
    by_cases hz : r 3 = 0
    · rw [if_pos hz]
      exact ⟨g, _, _, .inl ⟨rfl, rfl⟩, sh, fun _ => ⟨rfl, rfl, .g4 (r := r) hj h2 h0 h1 (by omega)⟩, fun h => (by cases h), .inl ⟨rfl, .inl rfl⟩⟩
    · rw [if_neg hz]
      exact ⟨g, _, _, .inl ⟨rfl, rfl⟩, sh, fun _ => ⟨rfl, rfl, .g1 hj h2 h0⟩, fun h => (by cases h), .inl ⟨rfl, .inl rfl⟩⟩
  | g4 hj h2 h0 h1 he =>
    rw [l_get4 r g v e [] h2]
    exact ⟨g, _, _, .inl ⟨rfl, rfl⟩, sh, fun _ => ⟨rfl, rfl, .g5 (r := setR r 4 v) hj h2 h0 h1 he (fun _ => rfl)⟩, fun h => (by cases h), .inl ⟨rfl, .inl rfl⟩⟩
  | g5 hj h2 h0 h1 he hv =>
    rw [l_get5 r g v e [] h2]
    by_cases hz : g = r 1
    · refine ⟨g, .reg v, some ⟨false, 0, 0, v⟩, .inr ⟨rfl, _, rfl, rfl, .inr ?_⟩, sh, fun _ => ⟨rfl, rfl, .g6y (r := setR r 5 g) hj h2 hz.symm v (hv hz)⟩, fun h => (by cases h), .inl ⟨rfl, .inl rfl⟩⟩
      rw [hc, if_neg hj]; exact ⟨rfl, rfl⟩
    · exact ⟨g, _, _, .inl ⟨rfl, rfl⟩, sh, fun _ => ⟨rfl, rfl, .g6n (r := setR r 5 g) hj h2 h0 (fun h => hz h.symm)⟩, fun h => (by cases h), .inl ⟨rfl, .inl rfl⟩⟩
  | g6y hj h2 h5 x hx =>
    rw [l_get6 r g v e [], if_pos h5]
    exact ⟨g, _, _, .inl ⟨rfl, rfl⟩, sh, fun _ => ⟨rfl, rfl, .g7y (r := setR r 6 1) hj h2 rfl x hx⟩, fun h => (by cases h), .inl ⟨rfl, .inl rfl⟩⟩
  | g6n hj h2 h0 h5 =>
    rw [l_get6 r g v e [], if_neg h5]
    exact ⟨g, _, _, .inl ⟨rfl, rfl⟩, sh, fun _ => ⟨rfl, rfl, .g7n (r := setR r 6 0) hj h2 h0 rfl⟩, fun h => (by cases h), .inl ⟨rfl, .inl rfl⟩⟩
  | g7y hj h2 h6 x hx =>
    rw [l_get7 r g v e [], if_neg (by omega)]
    exact ⟨g, _, _, .inl ⟨rfl, rfl⟩, sh, fun _ => ⟨rfl, rfl, .g8 hj x hx⟩, fun h => (by cases h), .inl ⟨rfl, .inl rfl⟩⟩
  | g7n hj h2 h0 h6 =>
    rw [l_get7 r g v e [], if_pos h6]
    exact ⟨g, _, _, .inl ⟨rfl, rfl⟩, sh, fun _ => ⟨rfl, rfl, .g1 hj h2 h0⟩, fun h => (by cases h), .inl ⟨rfl, .inl rfl⟩⟩
  | g8 hj x hx =>
    rw [l_get8 r g v e]
    exact ⟨g, _, _, .inl ⟨rfl, rfl⟩, sh, fun h => (by cases h), fun _ => ⟨fun h => absurd h hj, _, rfl, fun _ => by rw [hx]⟩, .inl ⟨rfl, .inl rfl⟩⟩
def cellA : Alg where
  q := lM
  o0 := .reg 0
  G := Int
  g0 := 0
  Sh ws ob g := lSh ws ob g
  Idle g j n := lIdle g j n
  TA ws g j n C t f := lTA ws g j n C t f
  Fit := lFit
  Tl := lTl
  three := rfl
  init := ⟨⟨0, rfl, rfl, by omega, by omega⟩, fun _ _ => rfl⟩
  start ws ob g j n hj h0 h1 hs hi := by
    rw [lM_len hj] at h1
    refine ⟨g, hs, ?_, fun _ _ _ h => h, fun _ _ _ _ _ _ h => h⟩
    have hc := lM_call hj h0 (by omega)
    unfold codeOf
    rw [hc]
    by_cases e : j = 0
    · rw [if_pos e]
      exact ⟨rfl, rfl, .p0 e rfl rfl (hi e)⟩
    · rw [if_neg e]
      exact ⟨rfl, rfl, .g0 e rfl⟩
  step ws ob g j n C t f hj h0 h1 hs ht := by
    rw [lM_len hj] at h1
    obtain ⟨g', ob', f', s1, s2, s3, s4, s5⟩ := l_step h0 (by omega) (lM_call hj h0 (by omega)) hs ht
    refine ⟨g', ob', f', s1, s2, s3, s4, fun i m hi h e => ?_, fun i m C' t' f hi h => ?_⟩
    · have hg := h e
      rcases s5 with ⟨h2, _⟩ | ⟨h2, _⟩
      · rw [h2]; exact hg
      · exact absurd (e.trans h2.symm) hi
    · obtain ⟨h2, h3, h4⟩ := h
      refine ⟨h2, h3, ?_⟩
      rcases s5 with ⟨e1, e2 | ⟨e2, e3⟩⟩ | ⟨e1, e2⟩
      · rw [e1, e2]; exact h4
      · exact lAt_keep (by rw [← e2]; exact hi) (.inl ⟨e1, .inr e3⟩) h4
      · exact lAt_keep (by rw [← e1]; exact hi) (.inr e2) h4
def putL : PutF := fun c told fin => if c.code = 0 then (true, c.args.getD 0 0, true) else if fin = false then (false, 0, true) else if told.length = 1 then (false, told.getD 0 0, true) else (false, 0, false)
theorem cell_yes {R : PRes} {ord : List Lz} {m : Nat} (hm : m ≤ 6000) (h : RunOk cellA R ord m) :
    Lin.FF (hist lM putL (opsOf R.out)) 0 (.reg 0) = true ∧ Lin.mayB 1 (hist lM putL (opsOf R.out)) = true := by
  have get : ∀ i, i < (opsOf R.out).length → (hist lM putL (opsOf R.out)).getD i default = finA lM putL (opAt (opsOf R.out) i) := by
    intro i hi; simp [hist, opAt, List.getD, hi]
  have hlen : (hist lM putL (opsOf R.out)).length = (opsOf R.out).length := List.length_map ..
  have eb : ∀ o, (finA lM putL o).b = o.b := by intro o; unfold finA; split <;> rfl
  have ee : ∀ o, (finA lM putL o).e = o.e := by intro o; unfold finA; split <;> simp_all
  constructor
  · refine lin_yes (ord := ord) (fun x hx => by rw [hlen]; exact h.gi.lt x hx) h.gi.nd (fun i hi he => ?_) ?_ h.sq (fun x hx o ho => ?_)
    · rw [hlen] at hi; rw [get i hi, ee] at he; exact h.gi.en i hi he
    · rw [hlen]
      refine RT_congr h.gi.rt (fun i hi => by rw [get i hi, ee]) (fun x hx => by rw [get x.i (h.gi.lt x hx), eb])
    · rw [get x.i (h.gi.lt x hx)]
      have hf : lFit (cAt lM (opAt (opsOf R.out) x.i)) x.f := h.ft x hx
      cases o with
      | cnt n => cases ho
      | hp b l => cases b <;> cases ho
      | reg n =>
        rcases hf with ⟨h1, h2, h3, h4⟩ | ⟨h1, h2⟩
        · have hp : (finA lM putL (opAt (opsOf R.out) x.i)).p = true ∧ (finA lM putL (opAt (opsOf R.out) x.i)).v = x.f.v := by
            unfold finA putL
            rw [h3]
            split <;> (first | exact ⟨rfl, rfl⟩ | (rw [if_pos h1]; exact ⟨rfl, rfl⟩))
          rw [Lin.onext_reg_put hp.1, Lin.onext_reg_put (show (fAct x.f).p = true from h2), hp.2]
          exact ⟨rfl, fun _ _ => rfl⟩
        · have hp : (finA lM putL (opAt (opsOf R.out) x.i)).p = false := by
            unfold finA putL
            split
            · rw [if_neg (by omega), if_pos rfl]
            · rw [if_neg (by omega), if_neg (by decide)]; split <;> rfl
          rw [Lin.onext_reg_get hp, Lin.onext_reg_get (show (fAct x.f).p = false from h2)]
          refine ⟨rfl, fun he hr => ?_⟩
          rw [ee] at he
          have ht : (opAt (opsOf R.out) x.i).r = [x.f.r] := h.tl x hx he h1
          have hr : n = x.f.r := hr
          show n = _
          unfold finA putL
          rw [if_neg he, if_neg (by omega), if_neg (by decide), ht]
          simp; exact hr
  · unfold Lin.mayB
    have h9 : (opsOf R.out).length ≤ 9 := h.ct
    rw [Bool.and_eq_true, Bool.and_eq_true, hlen]
    refine ⟨⟨by decide, by simpa using h9⟩, ?_⟩
    rw [Bool.not_eq_true', List.any_eq_false]
    intro a ha
    obtain ⟨o, ho, rfl⟩ := List.mem_map.1 ha
    obtain ⟨i, hi, rfl⟩ := List.mem_iff_getElem.1 ho
    have e : opAt (opsOf R.out) i = (opsOf R.out)[i] := by simp [opAt, List.getD, hi]
    have tm := h.gi.tm i hi
    rw [e] at tm
    have hy : (finA lM putL (opsOf R.out)[i]).y = 0 := by unfold finA; split <;> rfl
    unfold Lin.oddB Lin.inB Lin.heldB
    rw [eb, ee, hy]
    have := tm.2.2
    simp; omega
end Go.Proofs.YtnnjobmiepnedaaDoor.Nice

/- What TopCell asks of a run. -/
namespace Go.Proofs.YtnnjobmiepnedaaDoor.Nice
open Go
set_option linter.unusedVariables false
set_option linter.unusedSimpArgs false
set_option maxRecDepth 100000
set_option maxHeartbeats 4000000

theorem Spec.stillT {P : Program} {G : Nat → SV} {f : FuncId} {args : List SV} {ty k L : Nat} {F : Nat → Nat → D} {e : Int} (h : Spec P G f args [] (fun r ho => r = SV.tup [.sl 0 0 L, SV.i e] ∧ ho = [some (.rows ty k L F)])) : Spec P G f args [] (fun r ho => r = SV.tup [.d (.vec k L F), SV.i e] ∧ ho = []) := by
  intro M F' ρ vs w hG hH hsz hargs hfr
  refine (h M F' ρ vs w hG hH hsz hargs hfr).mono ?_
  rintro e' w' ⟨M', ρ', r, ho, u, rfl, h1, h2, h3, h4, h5, h6, rfl, rfl⟩
  obtain ⟨M2, k1, k2, k3⟩ := freeze_all h4 (n := 0) (len := L) rfl (Nat.le_refl _)
  refine ⟨M2, ρ', _, [], u, rfl, Imm.le_trans h1 k1, h2, ?_, ?_, rfl, h6, rfl, rfl⟩
  · cases h3 with
    | tup xs vs g hs hg hr =>
      refine .tupOf _ _ hs fun i s hi => ?_
      match i, hi with
      | 0, hi => cases hi; exact ⟨_, hg 0 (by show 0 < 2; decide), k3 _ (hr 0 _ rfl)⟩
      | 1, hi => cases hi; exact ⟨_, hg 1 (by show 1 < 2; decide), (hr 1 _ rfl).mono k1 (Names.le_refl _)⟩
      | n + 2, hi => simp at hi
  have e : upd (hOf [some (.rows ty k L F)]) 0 none = hOf [] := by
    funext n; rw [upd_eq]
    match n with
    | 0 => rfl
    | n + 1 => rfl
  rw [e] at k2; exact k2
theorem call_snocN (l : List CallD) (k0 : Int) (n : Nat) (hn : n = l.length) (i k : Nat) (hi : i < n + 1) (hk : k < 2) (M : Imm) (v : Value) (h : DR M (catR (callF l) n (litR 2 [.val (.int .i64 k0), .nils]) i k) v) : DR M (callF (l ++ [⟨k0, []⟩]) i k) v := by
  subst hn
  unfold catR at h
  by_cases hlt : i < l.length
  · rw [if_pos hlt] at h
    unfold callF at h ⊢
    rw [List.getD_eq_getElem?_getD, List.getElem?_append_left hlt, ← List.getD_eq_getElem?_getD]; exact h
  · obtain rfl : i = l.length := by omega
    rw [if_neg hlt, Nat.sub_self] at h
    unfold callF
    have : (l ++ [(⟨k0, []⟩ : CallD)]).getD l.length default = ⟨k0, []⟩ := by simp [List.getD]
    rw [this]
    match k, hk with
    | 0, _ => exact h
    | 1, _ => have h : DR M .nils v := h; cases h with | nils a => exact .vec0 _ _ _ _

theorem lM_ok : lM.ok := by
  refine ⟨by decide, by decide, by decide, fun k => ?_, fun k => ?_⟩
  · show ([lputL, lgetL].getD k []).length ≤ _
    match k with
    | 0 | 1 => decide
    | k + 2 => exact Nat.zero_le _
  · match k with
    | 0 | 1 | 2 => decide
    | k + 3 => exact Nat.zero_le _
theorem lM_20 (j : Int) (h : 0 ≤ j) : (lM.ts.getD j.toNat []).length ≤ 20 := by
  match j.toNat with
  | 0 | 1 | 2 => decide
  | k + 3 => exact Nat.zero_le _
structure CelR (R : PRes) : Prop where
  e : R.e = 0
  ev : ∀ x, x ∈ R.out → 0 ≤ x.th ∧ x.th < 3 ∧ 0 ≤ x.call ∧ x.call < (lM.ts.getD x.th.toNat []).length ∧ 0 ≤ x.st ∧ x.st ≤ 6000
  ok : ∀ x, x ∈ R.out → x.fin = true → (putL (callAt lM x.th.toNat x.call) x.told true).2.2 = true
  yes : Lin.FF (hist lM putL (opsTo R R.out.length)) 0 (.reg 0) = true
  may : Lin.mayB 1 (hist lM putL (opsTo R R.out.length)) = true
  len : (hist lM putL (opsTo R R.out.length)).length ≤ 9
theorem lM_args {j n : Int} (h0 : 0 ≤ j) (h3 : j < 3) (hn0 : 0 ≤ n) (hn : n < (lM.ts.getD j.toNat []).length) : (callAt lM j.toNat n).code = 0 → (callAt lM j.toNat n).args.length = 1 := by
  rw [lM_len (by omega)] at hn
  rw [lM_call (by omega) hn0 (by omega)]
  split
  · intro _; rfl
  · intro h; cases h
theorem cell_run (l : List Int) (R : PRes) (hR : played lM (schedL l 3 500) = R) : CelR R := by
  have hsl := sched_len l 3 500
  obtain ⟨ord, h⟩ := played_lin cellA (by show machB lM = true; decide +kernel) (schedL l 3 500) (by omega) (fun v hv => by have := sched_rng (n := 3) (by decide) 500 v hv; omega)
  have e : played cellA.q (schedL l 3 500) = R := hR
  rw [e] at h
  obtain ⟨y1, y2⟩ := cell_yes (by omega) h
  have et : opsTo R R.out.length = opsOf R.out := by unfold opsTo; rw [List.take_length]
  refine ⟨h.e, fun x hx => ?_, fun x hx hf => ?_, by rw [et]; exact y1, by rw [et]; exact y2, by rw [et]; unfold hist; rw [List.length_map]; exact h.ct⟩
  · obtain ⟨g1, g2, g3, g4, g5, g6⟩ := h.ev x hx
    exact ⟨g1, g2, g3, g4, g5, by omega⟩
  · obtain ⟨f, hf'⟩ := h.et x hx hf
    obtain ⟨g1, g2, g3, g4, _⟩ := h.ev x hx
    have hf' : lTl (callAt lM x.th.toNat x.call) f x.told := hf'
    unfold putL
    by_cases h0 : (callAt lM x.th.toNat x.call).code = 0
    · rw [if_pos h0]
    · rw [if_neg h0, if_neg (by decide)]
      have h1 : (callAt lM x.th.toNat x.call).code = 1 := by
        have g4 : x.call < (lM.ts.getD x.th.toNat []).length := g4
        rw [lM_len (by omega)] at g4
        rw [lM_call (by omega) g3 (by omega)] at h0 ⊢
        split at h0
        · exact absurd rfl h0
        · next hh => rw [if_neg hh]
      rw [hf' h1]; rfl
theorem putL_put {c : CallD} {told : List Int} {fin : Bool} (h : c.code = 0) : putL c told fin = (true, c.args.getD 0 0, true) := by unfold putL; rw [if_pos h]
theorem putL_no {c : CallD} {told : List Int} {fin : Bool} (h0 : ¬ c.code = 0) (h : fin = false) : putL c told fin = (false, 0, true) := by unfold putL; rw [if_neg h0, if_pos h]
theorem putL_bad {c : CallD} {told : List Int} {fin : Bool} (h0 : ¬ c.code = 0) (h : fin = true) (h2 : ¬ (told.length : Int) = 1) : putL c told fin = (false, 0, false) := by unfold putL; rw [if_neg h0, if_neg (by rw [h]; decide), if_neg (by omega)]
theorem putL_yes {c : CallD} {told : List Int} {fin : Bool} (h0 : ¬ c.code = 0) (h : fin = true) (h2 : (told.length : Int) = 1) : putL c told fin = (false, told.getD 0 0, true) := by unfold putL; rw [if_neg h0, if_neg (by rw [h]; decide), if_pos (by omega)]

theorem putL_any (c : CallD) (ha : c.code = 0 → c.args.length = 1) (told : List Int) (fin : Bool) (ht : told.length ≤ 200) : Spec Tryd.prog GV 29 [callS c, intsV told, SV.b fin] [] (fun r ho => r = SV.tup [SV.b (putL c told fin).1, SV.i (putL c told fin).2.1, SV.b (putL c told fin).2.2] ∧ ho = []) := by
  refine start 24 0 Tryd.func29 rfl rfl rfl rfl ?_
  refine r1 ?_
  refine s1 3 0 1 rfl rfl rfl rfl rfl rfl trivial ?_
  refine s1 6 8 2 rfl rfl rfl rfl rfl rfl trivial ?_
  refine s1 7 16 3 rfl rfl rfl rfl rfl rfl trivial ?_
  refine s1 8 24 4 rfl rfl rfl rfl rfl rfl trivial ?_
  refine e1 32 rfl ?_
  refine keep [1, 2, 3] rfl ?_
  refine W_seq ?_
  refine r1 ?_
  refine s1 9 32 1 rfl rfl rfl rfl rfl rfl trivial ?_
  refine s1 10 40 2 rfl rfl rfl rfl rfl rfl (by first | trivial | omega) ?_
  refine s1 11 48 3 rfl rfl rfl rfl rfl rfl (by first | trivial | omega) ?_
  refine e1 56 rfl ?_
  refine keep [1, 2, 3, 11] rfl ?_
  refine q1 rfl (fun hc1 => ?_) (fun hc1 => ?_)
  · skip
    try simp only [cs, ne_eq] at hc1
    refine rd1 rfl ?_
    refine d1 12 56 1 rfl rfl rfl rfl rfl rfl trivial ?_
    refine d1 13 64 2 rfl rfl rfl rfl rfl rfl (by first | trivial | omega) ?_
    refine d1 14 72 3 rfl rfl rfl rfl rfl rfl (by refine ⟨Int.le_refl _, ?_⟩; have := ha hc1; show (0 : Int) < ((c.args.length : Nat) : Int); omega) ?_
    refine d1 15 80 4 rfl rfl rfl rfl rfl rfl (by first | trivial | omega) ?_
    refine d1 6 88 5 rfl rfl rfl rfl rfl rfl trivial ?_
    refine d1 7 96 6 rfl rfl rfl rfl rfl rfl trivial ?_
    refine d1 8 104 7 rfl rfl rfl rfl rfl rfl trivial ?_
    refine de1 112 rfl (by kernel_rfl) ?_
    refine keep [6, 7, 8] rfl ?_
    refine W_ret ?_
    refine tr ?_
    exact out3 6 7 8 (SV.b (putL c told fin).1) (SV.i (putL c told fin).2.1) (SV.b (putL c told fin).2.2) (π := []) (hout := []) Tryd.results29 rfl rfl rfl (by rw [putL_put hc1]; rfl) (by rw [putL_put hc1]; rfl) (by rw [putL_put hc1]; rfl) rfl rfl trivial ⟨rfl, rfl⟩
  · skip
    try simp only [cs, ne_eq] at hc1
    refine W_skip ?_
    refine tn ?_
    refine W_seq ?_
    refine r1 ?_
    refine s1 16 56 1 rfl rfl rfl rfl rfl rfl trivial ?_
    refine s1 17 64 2 rfl rfl rfl rfl rfl rfl trivial ?_
    refine e1 72 rfl ?_
    refine keep [1, 17] rfl ?_
    refine q1 rfl (fun hc3 => ?_) (fun hc3 => ?_)
    · skip
      try simp only [cs, ne_eq] at hc3
      refine r1 ?_
      refine s1 6 72 1 rfl rfl rfl rfl rfl rfl trivial ?_
      refine s1 7 80 2 rfl rfl rfl rfl rfl rfl trivial ?_
      refine s1 8 88 3 rfl rfl rfl rfl rfl rfl trivial ?_
      refine e1 96 rfl ?_
      refine keep [6, 7, 8] rfl ?_
      refine W_ret ?_
      refine tr ?_
      exact out3 6 7 8 (SV.b (putL c told fin).1) (SV.i (putL c told fin).2.1) (SV.b (putL c told fin).2.2) (π := []) (hout := []) Tryd.results29 rfl rfl rfl (by rw [putL_no hc1 hc3]; rfl) (by rw [putL_no hc1 hc3]; rfl) (by rw [putL_no hc1 hc3]; rfl) rfl rfl trivial ⟨rfl, rfl⟩
    · skip
      try simp only [cs, ne_eq] at hc3
      refine W_skip ?_
      refine tn ?_
      refine W_seq ?_
      refine r1 ?_
      refine s1 18 72 1 rfl rfl rfl rfl rfl rfl trivial ?_
      refine s1 19 80 2 rfl rfl rfl rfl rfl rfl (by first | trivial | omega) ?_
      refine s1 20 88 3 rfl rfl rfl rfl rfl rfl (by first | trivial | omega) ?_
      refine e1 96 rfl ?_
      refine keep [1, 20] rfl ?_
      refine q1 rfl (fun hc5 => ?_) (fun hc5 => ?_)
      · skip
        try simp only [cs, ne_eq] at hc5
        refine r1 ?_
        refine s1 6 96 1 rfl rfl rfl rfl rfl rfl trivial ?_
        refine s1 7 104 2 rfl rfl rfl rfl rfl rfl trivial ?_
        refine s1 8 112 3 rfl rfl rfl rfl rfl rfl trivial ?_
        refine e1 120 rfl ?_
        refine keep [6, 7, 8] rfl ?_
        refine W_ret ?_
        refine tr ?_
        exact out3 6 7 8 (SV.b (putL c told fin).1) (SV.i (putL c told fin).2.1) (SV.b (putL c told fin).2.2) (π := []) (hout := []) Tryd.results29 rfl rfl rfl (by rw [putL_bad hc1 hc3 hc5]; rfl) (by rw [putL_bad hc1 hc3 hc5]; rfl) (by rw [putL_bad hc1 hc3 hc5]; rfl) rfl rfl trivial ⟨rfl, rfl⟩
      · skip
        try simp only [cs, ne_eq] at hc5
        refine W_skip ?_
        refine tn ?_
        refine rd1 rfl ?_
        refine d1 21 96 1 rfl rfl rfl rfl rfl rfl trivial ?_
        refine d1 22 104 2 rfl rfl rfl rfl rfl rfl (by first | trivial | omega) ?_
        refine d1 23 112 3 rfl rfl rfl rfl rfl rfl (by first | trivial | omega) ?_
        refine d1 6 120 4 rfl rfl rfl rfl rfl rfl trivial ?_
        refine d1 7 128 5 rfl rfl rfl rfl rfl rfl trivial ?_
        refine d1 8 136 6 rfl rfl rfl rfl rfl rfl trivial ?_
        refine de1 144 rfl (by kernel_rfl) ?_
        refine keep [6, 7, 8] rfl ?_
        refine W_ret ?_
        exact out3 6 7 8 (SV.b (putL c told fin).1) (SV.i (putL c told fin).2.1) (SV.b (putL c told fin).2.2) (π := []) (hout := []) Tryd.results29 rfl rfl rfl (by rw [putL_yes hc1 hc3 (by omega)]; rfl) (by rw [putL_yes hc1 hc3 (by omega)]; rfl) (by rw [putL_yes hc1 hc3 (by omega)]; rfl) rfl rfl trivial ⟨rfl, rfl⟩

theorem putL_nil (c : CallD) (ha : c.code = 0 → c.args.length = 1) : Spec Tryd.prog GV 29 [callS c, .d .nils, SV.b false] [] (fun r ho => r = SV.tup [SV.b (putL c [] false).1, SV.i (putL c [] false).2.1, SV.b (putL c [] false).2.2] ∧ ho = []) := by
  refine start 24 0 Tryd.func29 rfl rfl rfl rfl ?_
  refine r1 ?_
  refine s1 3 0 1 rfl rfl rfl rfl rfl rfl trivial ?_
  refine s1 6 8 2 rfl rfl rfl rfl rfl rfl trivial ?_
  refine s1 7 16 3 rfl rfl rfl rfl rfl rfl trivial ?_
  refine s1 8 24 4 rfl rfl rfl rfl rfl rfl trivial ?_
  refine e1 32 rfl ?_
  refine keep [1, 2, 3] rfl ?_
  refine W_seq ?_
  refine r1 ?_
  refine s1 9 32 1 rfl rfl rfl rfl rfl rfl trivial ?_
  refine s1 10 40 2 rfl rfl rfl rfl rfl rfl (by first | trivial | omega) ?_
  refine s1 11 48 3 rfl rfl rfl rfl rfl rfl (by first | trivial | omega) ?_
  refine e1 56 rfl ?_
  refine keep [1, 2, 3, 11] rfl ?_
  refine q1 rfl (fun hc1 => ?_) (fun hc1 => ?_)
  · skip
    try simp only [cs, ne_eq] at hc1
    refine rd1 rfl ?_
    refine d1 12 56 1 rfl rfl rfl rfl rfl rfl trivial ?_
    refine d1 13 64 2 rfl rfl rfl rfl rfl rfl (by first | trivial | omega) ?_
    refine d1 14 72 3 rfl rfl rfl rfl rfl rfl (by refine ⟨Int.le_refl _, ?_⟩; have := ha hc1; show (0 : Int) < ((c.args.length : Nat) : Int); omega) ?_
    refine d1 15 80 4 rfl rfl rfl rfl rfl rfl (by first | trivial | omega) ?_
    refine d1 6 88 5 rfl rfl rfl rfl rfl rfl trivial ?_
    refine d1 7 96 6 rfl rfl rfl rfl rfl rfl trivial ?_
    refine d1 8 104 7 rfl rfl rfl rfl rfl rfl trivial ?_
    refine de1 112 rfl (by kernel_rfl) ?_
    refine keep [6, 7, 8] rfl ?_
    refine W_ret ?_
    refine tr ?_
    exact out3 6 7 8 (SV.b (putL c [] false).1) (SV.i (putL c [] false).2.1) (SV.b (putL c [] false).2.2) (π := []) (hout := []) Tryd.results29 rfl rfl rfl (by rw [putL_put hc1]; rfl) (by rw [putL_put hc1]; rfl) (by rw [putL_put hc1]; rfl) rfl rfl trivial ⟨rfl, rfl⟩
  · skip
    try simp only [cs, ne_eq] at hc1
    refine W_skip ?_
    refine tn ?_
    refine W_seq ?_
    refine r1 ?_
    refine s1 16 56 1 rfl rfl rfl rfl rfl rfl trivial ?_
    refine s1 17 64 2 rfl rfl rfl rfl rfl rfl trivial ?_
    refine e1 72 rfl ?_
    refine keep [1, 17] rfl ?_
    refine q1 rfl (fun hc3 => ?_) (fun hc3 => ?_)
    · skip
      try simp only [cs, ne_eq] at hc3
      refine r1 ?_
      refine s1 6 72 1 rfl rfl rfl rfl rfl rfl trivial ?_
      refine s1 7 80 2 rfl rfl rfl rfl rfl rfl trivial ?_
      refine s1 8 88 3 rfl rfl rfl rfl rfl rfl trivial ?_
      refine e1 96 rfl ?_
      refine keep [6, 7, 8] rfl ?_
      refine W_ret ?_
      refine tr ?_
      exact out3 6 7 8 (SV.b (putL c [] false).1) (SV.i (putL c [] false).2.1) (SV.b (putL c [] false).2.2) (π := []) (hout := []) Tryd.results29 rfl rfl rfl (by rw [putL_no hc1 rfl]; rfl) (by rw [putL_no hc1 rfl]; rfl) (by rw [putL_no hc1 rfl]; rfl) rfl rfl trivial ⟨rfl, rfl⟩
    · skip
      exact absurd hc3 (by decide)

theorem words_cell  : Spec Tryd.prog GV 26 [SV.i 1] [] (fun r ho => r = SV.tup [.sl 0 0 2, SV.i 0] ∧ ho = [some (.rows 3 1 2 (intsF [0, 0]))]) := by
  refine start 10 0 Tryd.func26 rfl rfl rfl rfl ?_
  refine r1 ?_
  refine s1 2 0 1 rfl rfl rfl rfl rfl rfl trivial ?_
  refine s1 3 8 2 rfl rfl rfl rfl rfl rfl trivial ?_
  refine e1 16 rfl ?_
  refine keep [0] rfl ?_
  refine W_seq ?_
  refine r1 ?_
  refine s1 4 16 1 rfl rfl rfl rfl rfl rfl trivial ?_
  refine c1 (cell_may_any 1) [] [] 5 24 2 rfl rfl rfl rfl rfl rfl rfl rfl Tryd.func55 rfl rfl rfl rfl trivial rfl rfl ?_
  refine s1 6 32 3 rfl rfl rfl rfl rfl rfl trivial ?_
  refine e1 40 rfl ?_
  refine keep [0, 6] rfl ?_
  refine q1 rfl (fun hc1 => ?_) (fun hc1 => ?_)
  · skip
    exact absurd hc1 (by decide)
  · skip
    try simp only [cs, ne_eq] at hc1
    refine W_skip ?_
    refine tn ?_
    refine r1 ?_
    refine s1 7 40 1 rfl rfl rfl rfl rfl rfl trivial ?_
    refine sA 8 48 2 rfl rfl rfl rfl rfl rfl rfl rfl rfl (by unfold inRange; omega) ?_
    refine s1 9 56 3 rfl rfl rfl rfl rfl rfl ⟨by decide, rfl, by decide, by decide⟩ ?_
    refine s1 2 64 4 rfl rfl rfl rfl rfl rfl trivial ?_
    refine s1 3 72 5 rfl rfl rfl rfl rfl rfl trivial ?_
    refine e1 80 rfl ?_
    refine keep [2, 3] rfl ?_
    refine rowsc (k := 1) (L := 2) 56 2 (intsF [0, 0]) rfl rfl (fun i c hi hc => by obtain rfl : c = 0 := (by omega); rcases (show i = 0 ∨ i = 1 by omega) with rfl | rfl <;> rfl) ?_
    refine cval 2 (.sl 56 0 2) rfl rfl ?_
    refine W_ret ?_
    exact out2 2 3 (.sl 0 0 2) (SV.i 0) (π := [56]) (hout := [some (.rows 3 1 2 (intsF [0, 0]))]) Tryd.results26 rfl rfl rfl rfl rfl rfl ⟨rfl, trivial⟩ ⟨rfl, rfl⟩

end Go.Proofs.YtnnjobmiepnedaaDoor.Nice
