/- The number to which many add: what its code keeps, and that its histories could be one behind the other. -/
import Derived.Test.YtnnjobmiepnedaaDoorMHi
import Derived.Test.YtnnjobmiepnedaaDoorCountT
import Derived.Test.YtnnjobmiepnedaaDoorSure
namespace Go.Proofs.YtnnjobmiepnedaaDoor.Nice
open Go
set_option linter.unusedVariables false
set_option linter.unusedSimpArgs false
set_option maxRecDepth 100000
set_option maxHeartbeats 4000000
def caddL : List Ins := [⟨13, 1, 2, 0, 0⟩, ⟨3, 3, 1, 0, 0⟩, ⟨15, 3, 2, 0, 1⟩, ⟨12, 3, 0, 0, 0⟩, ⟨16, 1, 0, 0, 0⟩]
def cgetL : List Ins := [⟨13, 0, 1, 0, 0⟩, ⟨16, 0, 0, 0, 0⟩]
theorem fin_cadd : fin B_Add = caddL := by kernel_rfl
theorem fin_cget : fin B_Get = cgetL := by kernel_rfl
def cq (c : Nat → CallD) : Mach := ⟨[0], [caddL, cgetL], [[c 0, c 3, c 6], [c 1, c 4, c 7], [c 2, c 5, c 8]]⟩
def okC (c : CallD) : Prop := c.code = 0 ∧ c.args.length = 1 ∨ c.code = 1 ∧ c.args = []
theorem cq_call (c : Nat → CallD) {j : Nat} {n : Int} (hj : j < 3) (h0 : 0 ≤ n) (h1 : n < 3) : callAt (cq c) j n = c (j + 3 * n.toNat) := by
  rcases (show j = 0 ∨ j = 1 ∨ j = 2 by omega) with rfl | rfl | rfl <;> rcases (show n = 0 ∨ n = 1 ∨ n = 2 by omega) with rfl | rfl | rfl <;> rfl
theorem cq_len (c : Nat → CallD) {j : Nat} (hj : j < 3) : ((cq c).ts.getD j []).length = 3 := by
  rcases (show j = 0 ∨ j = 1 ∨ j = 2 by omega) with rfl | rfl | rfl <;> rfl
theorem cq_code (c : Nat → CallD) {j : Nat} {n : Int} : codeOf (cq c) j n = [caddL, cgetL].getD (callAt (cq c) j n).code.toNat [] := rfl
theorem c_add0 (r : Nat → Int) (w e : Int) (told : List Int) (h : r 2 = 0) : vstep caddL [w] ⟨r, 0, told, e, false⟩ = (⟨setR r 1 w, 1, told, e, false⟩, [w]) := by
  simp [vstep, vexec, vother, vword, vend, caddL, h, wrp, IntKind.wrap, IntKind.signed, IntKind.bits]
theorem c_add1 (r : Nat → Int) (w e : Int) (told : List Int) : vstep caddL [w] ⟨r, 1, told, e, false⟩ = (⟨setR r 3 (wrp (r 1 + r 0)), 2, told, e, false⟩, [w]) := rfl
theorem c_add2 (r : Nat → Int) (w e : Int) (told : List Int) (h : r 2 = 0) : vstep caddL [w] ⟨r, 2, told, e, false⟩ = if w = r 1 then (⟨setR r 3 1, 3, told, e, false⟩, [r 3]) else (⟨setR r 3 0, 3, told, e, false⟩, [w]) := by
  by_cases hw : w = r 1 <;> simp [vstep, vexec, vother, vword, vend, caddL, h, hw, wrp, IntKind.wrap, IntKind.signed, IntKind.bits]
theorem c_add3 (r : Nat → Int) (w e : Int) (told : List Int) : vstep caddL [w] ⟨r, 3, told, e, false⟩ = (⟨r, if r 3 = 0 then 0 else 4, told, e, false⟩, [w]) := by
  by_cases h : r 3 = 0 <;> simp [vstep, vexec, vother, vword, vend, caddL, h]
theorem c_add4 (r : Nat → Int) (w e : Int) : vstep caddL [w] ⟨r, 4, [], e, false⟩ = (⟨r, 5, [r 1], e, true⟩, [w]) := by
  simp [vstep, vexec, vother, vword, vend, caddL]
theorem c_get0 (r : Nat → Int) (w e : Int) (told : List Int) (h : r 1 = 0) : vstep cgetL [w] ⟨r, 0, told, e, false⟩ = (⟨setR r 0 w, 1, told, e, false⟩, [w]) := by
  simp [vstep, vexec, vother, vword, vend, cgetL, h, wrp, IntKind.wrap, IntKind.signed, IntKind.bits]
theorem c_get1 (r : Nat → Int) (w e : Int) : vstep cgetL [w] ⟨r, 1, [], e, false⟩ = (⟨r, 2, [r 0], e, true⟩, [w]) := by
  simp [vstep, vexec, vother, vword, vend, cgetL]
def cArg (c : CallD) : Int := c.args.getD 0 0
/-- Where a thread in a call is. -/
inductive CAt (c : CallD) (r : Nat → Int) : List Ins → Int → Option Lf → Prop
  | a0 (h : c.code = 0) (h0 : r 0 = cArg c) (h2 : r 2 = 0) : CAt c r caddL 0 none
  | a1 (h : c.code = 0) (h0 : r 0 = cArg c) (h2 : r 2 = 0) : CAt c r caddL 1 none
  | a2 (h : c.code = 0) (h0 : r 0 = cArg c) (h2 : r 2 = 0) (h3 : r 3 = wrp (r 1 + r 0)) : CAt c r caddL 2 none
  | a3n (h : c.code = 0) (h0 : r 0 = cArg c) (h2 : r 2 = 0) (h3 : r 3 = 0) : CAt c r caddL 3 none
  | a3y (h : c.code = 0) (h0 : r 0 = cArg c) (h2 : r 2 = 0) (h3 : r 3 = 1) (x : Int) (hx : x = r 1) : CAt c r caddL 3 (some ⟨true, 0, cArg c, x⟩)
  | a4 (h : c.code = 0) (x : Int) (hx : x = r 1) : CAt c r caddL 4 (some ⟨true, 0, cArg c, x⟩)
  | g0 (h : c.code = 1) (h1 : r 1 = 0) : CAt c r cgetL 0 none
  | g1 (h : c.code = 1) (x : Int) (hx : x = r 0) : CAt c r cgetL 1 (some ⟨false, 0, 0, x⟩)
def cTA (c : CallD) (C : List Ins) (t : Thr) (f : Option Lf) : Prop := t.ov = false ∧ t.told = [] ∧ CAt c t.r C t.pc f
def cFit (c : CallD) (f : Lf) : Prop := (c.code = 0 ∧ f.p = true ∧ f.y = cArg c) ∨ (c.code = 1 ∧ f.p = false ∧ f.y = 0)
def cSh (ws : List Int) (o : Lin.Ob) : Prop := ∃ w, ws = [w] ∧ o = .cnt w ∧ wrp w = w
theorem wrp_twice (x : Int) : wrp (wrp x) = wrp x := by
  unfold wrp; simp [IntKind.wrap, IntKind.signed, IntKind.bits]; omega
theorem setR_same (r : Nat → Int) (v : Int) (k : Nat) (j : Int) (h : j.toNat = k) : setR r j v k = v := by unfold setR; rw [if_pos h.symm]
theorem setR_else (r : Nat → Int) (v : Int) (k : Nat) (j : Int) (h : ¬ k = j.toNat) : setR r j v k = r k := by unfold setR; rw [if_neg h]
theorem c_step {ws : List Int} {ob : Lin.Ob} {c : CallD} {C : List Ins} {t : Thr} {f : Option Lf} (hs : cSh ws ob) (ht : cTA c C t f) :
    ∃ ob' f', (f' = f ∧ ob' = ob ∨ f = none ∧ ∃ x, f' = some x ∧ Lin.onext ob (fAct x) = (ob', x.r) ∧ cFit c x) ∧ cSh (vstep C ws t).2 ob' ∧
      ((vstep C ws t).1.ov = false → cTA c C (vstep C ws t).1 f') ∧ ((vstep C ws t).1.ov = true → ∃ x, f' = some x ∧ (vstep C ws t).1.told = [x.r]) := by
  obtain ⟨w, rfl, rfl, hww⟩ := hs
  obtain ⟨r, pc, told, e, ov⟩ := t
  obtain ⟨hov, htl, hat⟩ := ht
  simp only at hov htl hat
  subst hov; subst htl
  cases hat with
  | a0 h h0 h2 =>
    rw [c_add0 r w e [] h2]
    exact ⟨_, _, .inl ⟨rfl, rfl⟩, ⟨w, rfl, rfl, hww⟩, fun _ => ⟨rfl, rfl, .a1 (r := setR r 1 w) h h0 h2⟩, fun h => by cases h⟩
  | a1 h h0 h2 =>
    rw [c_add1 r w e []]
    exact ⟨_, _, .inl ⟨rfl, rfl⟩, ⟨w, rfl, rfl, hww⟩, fun _ => ⟨rfl, rfl, .a2 (r := setR r 3 (wrp (r 1 + r 0))) h h0 h2 rfl⟩, fun h => by cases h⟩
  | a2 h h0 h2 h3 =>
    rw [c_add2 r w e [] h2]
    by_cases hw : w = r 1
    · rw [if_pos hw]
      refine ⟨.cnt (r 3), some ⟨true, 0, cArg c, w⟩, .inr ⟨rfl, _, rfl, ?_, .inl ⟨h, rfl, rfl⟩⟩, ⟨r 3, rfl, rfl, by rw [h3, wrp_twice]⟩, fun _ => ⟨rfl, rfl, .a3y (r := setR r 3 1) h h0 h2 rfl w hw⟩, fun h => by cases h⟩
      show (Lin.Ob.cnt (Lin.wrp (w + cArg c)), w) = (Lin.Ob.cnt (r 3), w)
      rw [h3, hw, h0]; rfl
    · rw [if_neg hw]
      exact ⟨_, _, .inl ⟨rfl, rfl⟩, ⟨w, rfl, rfl, hww⟩, fun _ => ⟨rfl, rfl, .a3n (r := setR r 3 0) h h0 h2 rfl⟩, fun h => by cases h⟩
  | a3n h h0 h2 h3 =>
    rw [c_add3 r w e [], if_pos h3]
    exact ⟨_, _, .inl ⟨rfl, rfl⟩, ⟨w, rfl, rfl, hww⟩, fun _ => ⟨rfl, rfl, .a0 h h0 h2⟩, fun h => by cases h⟩
  | a3y h h0 h2 h3 x hx =>
    rw [c_add3 r w e [], if_neg (by omega)]
    exact ⟨_, _, .inl ⟨rfl, rfl⟩, ⟨w, rfl, rfl, hww⟩, fun _ => ⟨rfl, rfl, .a4 h x hx⟩, fun h => by cases h⟩
  | a4 h x hx =>
    rw [c_add4 r w e]
    exact ⟨_, _, .inl ⟨rfl, rfl⟩, ⟨w, rfl, rfl, hww⟩, fun h => (by cases h), fun _ => ⟨_, rfl, by rw [hx]⟩⟩
  | g0 h h1 =>
    rw [c_get0 r w e [] h1]
    exact ⟨.cnt w, some ⟨false, 0, 0, w⟩, .inr ⟨rfl, _, rfl, by
      show (Lin.Ob.cnt (Lin.wrp (w + 0)), w) = _
      rw [Int.add_zero]; exact congrArg (fun z => (Lin.Ob.cnt z, w)) hww, .inr ⟨h, rfl, rfl⟩⟩, ⟨w, rfl, rfl, hww⟩, fun _ => ⟨rfl, rfl, .g1 (r := setR r 0 w) h w rfl⟩, fun h => by cases h⟩
  | g1 h x hx =>
    rw [c_get1 r w e]
    exact ⟨_, _, .inl ⟨rfl, rfl⟩, ⟨w, rfl, rfl, hww⟩, fun h => (by cases h), fun _ => ⟨_, rfl, by rw [hx]⟩⟩
def countA (c : Nat → CallD) (hc : ∀ i, okC (c i)) : Alg where
  q := cq c
  o0 := .cnt 0
  G := Unit
  g0 := ()
  Sh ws ob _ := cSh ws ob
  Idle _ _ _ := True
  TA _ _ j n C t f := cTA (callAt (cq c) j n) C t f
  Fit := cFit
  Tl _ f told := told = [f.r]
  three := rfl
  init := ⟨⟨0, rfl, rfl, rfl⟩, fun _ => trivial⟩
  start ws ob g j n hj h0 h1 hs _ := by
    rw [cq_len c hj] at h1
    refine ⟨(), hs, ?_, fun _ _ _ h => h, fun _ _ _ _ _ _ h => h⟩
    rw [cq_code, cq_call c hj h0 (by omega)]
    rcases hc (j + 3 * n.toNat) with ⟨h2, h3⟩ | ⟨h2, h3⟩
    · rw [h2]
      refine ⟨rfl, rfl, .a0 h2 rfl ?_⟩
      show (c (j + 3 * n.toNat)).args.getD 2 0 = 0
      rw [List.getD_eq_getElem?_getD, List.getElem?_eq_none (by omega)]; rfl
    · rw [h2]
      refine ⟨rfl, rfl, .g0 h2 ?_⟩
      show (c (j + 3 * n.toNat)).args.getD 1 0 = 0
      rw [h3]; rfl
  step ws ob g j n C t f hj h0 h1 hs ht := by
    obtain ⟨ob', f', s1, s2, s3, s4⟩ := c_step hs ht
    exact ⟨(), ob', f', s1, s2, s3, fun h => ⟨trivial, s4 h⟩, fun _ _ _ h => h, fun _ _ _ _ _ _ h => h⟩
def putC : PutF := fun c told fin => if fin = false then (decide (c.code = 0), 0, true) else if told.length = 1 then (decide (c.code = 0), told.getD 0 0, true) else (false, 0, false)
def byA (q : Mach) (o : Opn) : Lin.Act := ⟨(finA q putC o).b, (finA q putC o).e, (finA q putC o).p, (finA q putC o).v, if (cAt q o).code = 0 then cArg (cAt q o) else 0⟩
theorem count_yes {c : Nat → CallD} (hc : ∀ i, okC (c i)) {R : PRes} {ord : List Lz} {m : Nat} (hm : m ≤ 6000) (h : RunOk (countA c hc) R ord m) :
    Lin.FF ((opsOf R.out).map (byA (cq c))) 0 (.cnt 0) = true ∧ Lin.mayB 2 ((opsOf R.out).map (byA (cq c))) = true := by
  have get : ∀ i, i < (opsOf R.out).length → ((opsOf R.out).map (byA (cq c))).getD i default = byA (cq c) (opAt (opsOf R.out) i) := by
    intro i hi; simp [opAt, List.getD, hi]
  have hlen : ((opsOf R.out).map (byA (cq c))).length = (opsOf R.out).length := List.length_map ..
  have eb : ∀ o, (byA (cq c) o).b = o.b := by intro o; unfold byA finA; split <;> rfl
  have ee : ∀ o, (byA (cq c) o).e = o.e := by intro o; unfold byA finA; split <;> simp_all
  constructor
  · refine lin_yes (ord := ord) (fun x hx => by rw [hlen]; exact h.gi.lt x hx) h.gi.nd (fun i hi he => ?_) ?_ h.sq (fun x hx o ho => ?_)
    · rw [hlen] at hi; rw [get i hi, ee] at he; exact h.gi.en i hi he
    · rw [hlen]
      refine RT_congr h.gi.rt (fun i hi => by rw [get i hi, ee]) (fun x hx => by rw [get x.i (h.gi.lt x hx), eb])
    · rw [get x.i (h.gi.lt x hx)]
      have hf : cFit (cAt (cq c) (opAt (opsOf R.out) x.i)) x.f := h.ft x hx
      have hy : (byA (cq c) (opAt (opsOf R.out) x.i)).y = x.f.y := by
        unfold byA; simp only
        rcases hf with ⟨h1, h2, h3⟩ | ⟨h1, h2, h3⟩
        · rw [if_pos h1, h3]
        · rw [if_neg (by omega), h3]
      cases o with
      | reg n => cases ho
      | hp b l => cases b <;> cases ho
      | cnt n =>
        refine ⟨?_, fun he hr => ?_⟩
        · show Lin.Ob.cnt (Lin.wrp (n + (byA (cq c) (opAt (opsOf R.out) x.i)).y)) = Lin.Ob.cnt (Lin.wrp (n + x.f.y))
          rw [hy]
        · rw [ee] at he
          have ht : (opAt (opsOf R.out) x.i).r = [x.f.r] := h.tl x hx he
          have hr : n = x.f.r := hr
          show n = (byA (cq c) (opAt (opsOf R.out) x.i)).v
          unfold byA finA putC
          rw [if_neg he, ht]
          simp; exact hr
  · unfold Lin.mayB
    have h9 : (opsOf R.out).length ≤ 9 := h.ct
    rw [Bool.and_eq_true, Bool.and_eq_true, hlen]
    refine ⟨⟨by decide, by simpa using h9⟩, ?_⟩
    rw [Bool.not_eq_true', List.any_eq_false]
    intro a ha
    obtain ⟨o, ho, rfl⟩ := List.mem_map.1 ha
    obtain ⟨i, hi, rfl⟩ := List.mem_iff_getElem.1 ho
    have e : opAt (opsOf R.out) i = (opsOf R.out)[i] := by simp [opAt, List.getD, hi]
    have tm := h.gi.tm i hi
    rw [e] at tm
    have hp : (byA (cq c) (opsOf R.out)[i]).y ≠ 0 → (byA (cq c) (opsOf R.out)[i]).p = true := by
      intro hy
      have : (cAt (cq c) (opsOf R.out)[i]).code = 0 := by
        by_cases h0 : (cAt (cq c) (opsOf R.out)[i]).code = 0
        · exact h0
        · unfold byA at hy; simp only at hy; rw [if_neg h0] at hy; exact absurd rfl hy
      unfold byA finA putC
      by_cases he : (opsOf R.out)[i].e = -1
      · simp [he, this]
      · have hin := h.gi.en i hi (by rw [e]; exact he)
        obtain ⟨x, hx, hxi⟩ := List.mem_map.1 hin
        have ht := h.tl x hx (by rw [hxi, e]; exact he)
        rw [hxi, e] at ht
        have ht : (opsOf R.out)[i].r = [x.f.r] := ht
        simp [he, this, ht]
    unfold Lin.oddB Lin.inB Lin.heldB
    rw [eb, ee]
    have := tm.2.2
    cases hyp : decide ((byA (cq c) (opsOf R.out)[i]).y = 0) with
    | true => simp; omega
    | false => rw [decide_eq_false_iff_not] at hyp; rw [hp hyp]; simp; omega
end Go.Proofs.YtnnjobmiepnedaaDoor.Nice

/- What TopCount asks of a run. -/
namespace Go.Proofs.YtnnjobmiepnedaaDoor.Nice
open Go
set_option linter.unusedVariables false
set_option linter.unusedSimpArgs false
set_option maxRecDepth 100000
set_option maxHeartbeats 4000000

def cOf (bs : List Int) (i : Nat) : CallD := if i < bs.length ∧ 0 < pickI (bs.getD i 0) 3 then ⟨0, [pickI (bs.getD i 0) 3]⟩ else ⟨1, []⟩
theorem cOf_yes {bs : List Int} {i : Nat} (h : (i : Int) < bs.length) (h2 : 0 < pickI (bs.getD i 0) 3) : cOf bs i = ⟨0, [pickI (bs.getD i 0) 3]⟩ := by unfold cOf; rw [if_pos ⟨by omega, h2⟩]
theorem cOf_no1 {bs : List Int} {i : Nat} (h : (bs.length : Int) ≤ i) : cOf bs i = ⟨1, []⟩ := by unfold cOf; rw [if_neg (fun hh => by omega)]
theorem cOf_no2 {bs : List Int} {i : Nat} (h2 : ¬ 0 < pickI (bs.getD i 0) 3) : cOf bs i = ⟨1, []⟩ := by unfold cOf; rw [if_neg (fun hh => h2 hh.2)]
theorem cOf_ok (bs : List Int) (i : Nat) : okC (cOf bs i) := by unfold cOf; split; exact .inl ⟨rfl, rfl⟩; exact .inr ⟨rfl, rfl⟩
theorem cq_ok (c : Nat → CallD) : (cq c).ok := by
  refine ⟨by show (1 : Nat) ≤ _; decide, by show (2 : Nat) ≤ _; decide, by show (3 : Nat) ≤ _; decide, fun k => ?_, fun k => ?_⟩
  · show ([caddL, cgetL].getD k []).length ≤ _
    match k with
    | 0 | 1 => decide
    | k + 2 => exact Nat.zero_le _
  · show (([[c 0, c 3, c 6], [c 1, c 4, c 7], [c 2, c 5, c 8]] : List (List CallD)).getD k []).length ≤ _
    match k with
    | 0 | 1 | 2 => show (3 : Nat) ≤ _; decide
    | k + 3 => exact Nat.zero_le _
theorem cq_may {c : Nat → CallD} (hc : ∀ i, okC (c i)) : machB (cq c) = true := by
  have hb : ∀ i, badB 2 (c i) = false := by
    intro i
    unfold badB
    rcases hc i with ⟨h1, h2⟩ | ⟨h1, h2⟩
    · rw [h1, h2]; decide
    · rw [h1, h2]; decide
  unfold machB
  rw [Bool.and_eq_true, Bool.and_eq_true]
  refine ⟨rfl, ?_, ?_⟩
  · show [caddL, cgetL].all mayB = true
    decide +kernel
  · show ([[c 0, c 3, c 6], [c 1, c 4, c 7], [c 2, c 5, c 8]] : List (List CallD)).all (thrB 2) = true
    simp [thrB, hb]

def tQ (bs : List Int) : Mach := cq (cOf bs)
theorem cq_20 (c : Nat → CallD) (j : Int) (h : 0 ≤ j) : ((cq c).ts.getD j.toNat []).length ≤ 20 := by
  show (([[c 0, c 3, c 6], [c 1, c 4, c 7], [c 2, c 5, c 8]] : List (List CallD)).getD j.toNat []).length ≤ 20
  match j.toNat with
  | 0 | 1 | 2 => show (3 : Nat) ≤ _; decide
  | k + 3 => exact Nat.zero_le _
theorem tQ_in {bs : List Int} {th n : Int} (h0 : 0 ≤ th) (h3 : th < 3) (hn0 : 0 ≤ n) (hn : n < ((tQ bs).ts.getD th.toNat []).length) : okC (callAt (tQ bs) th.toNat n) := by
  have : n < 3 := by
    have := cq_len (cOf bs) (j := th.toNat) (by omega)
    unfold tQ at hn; omega
  unfold tQ
  rw [cq_call (cOf bs) (by omega) hn0 this]; exact cOf_ok _ _
structure CntR (bs : List Int) (R : PRes) : Prop where
  e : R.e = 0
  ev : ∀ x, x ∈ R.out → 0 ≤ x.th ∧ x.th < 3 ∧ 0 ≤ x.call ∧ x.call < ((tQ bs).ts.getD x.th.toNat []).length ∧ 0 ≤ x.st ∧ x.st ≤ 6000
  ok : ∀ x, x ∈ R.out → x.fin = true → (putC (callAt (tQ bs) x.th.toNat x.call) x.told true).2.2 = true
  yes : Lin.FF ((opsTo R R.out.length).map (byA (tQ bs))) 0 (.cnt 0) = true
  may : Lin.mayB 2 ((opsTo R R.out.length).map (byA (tQ bs))) = true
  args : ∀ x, x ∈ R.out → (callAt (tQ bs) x.th.toNat x.call).code = 0 → (callAt (tQ bs) x.th.toNat x.call).args.length = 1
theorem count_run (bs l : List Int) (R : PRes) (hR : played (tQ bs) (schedL l 3 400) = R) : CntR bs R := by
  have hsl := sched_len l 3 400
  obtain ⟨ord, h⟩ := played_lin (countA (cOf bs) (cOf_ok bs)) (cq_may (cOf_ok bs)) (schedL l 3 400) (by omega) (fun v hv => by have := sched_rng (n := 3) (by decide) 400 v hv; omega)
  have e : played (countA (cOf bs) (cOf_ok bs)).q (schedL l 3 400) = R := hR
  rw [e] at h
  obtain ⟨y1, y2⟩ := count_yes (cOf_ok bs) (by omega) h
  have et : opsTo R R.out.length = opsOf R.out := by unfold opsTo; rw [List.take_length]
  refine ⟨h.e, fun x hx => ?_, fun x hx hf => ?_, by rw [et]; exact y1, by rw [et]; exact y2, fun x hx hc => ?_⟩
  · obtain ⟨g1, g2, g3, g4, g5, g6⟩ := h.ev x hx
    exact ⟨g1, g2, g3, g4, g5, by omega⟩
  · obtain ⟨f, hf'⟩ := h.et x hx hf
    have : x.told = [f.r] := hf'
    unfold putC; rw [this]; rfl
  · obtain ⟨g1, g2, g3, g4, _⟩ := h.ev x hx
    rcases tQ_in g1 g2 g3 g4 with ⟨_, h2⟩ | ⟨h1, _⟩
    · exact h2
    · omega
def byU (q : Mach) (l : List Opn) (k : Nat) : Nat → Nat → D := fun m c => Lin.actC (if m < k then byA q (opAt l m) else finA q putC (opAt l m)) c
theorem byU_0 (q : Mach) (l : List Opn) (m c : Nat) (hm : m < l.length) : Lin.actF (hist q putC l) m c = byU q l 0 m c := by
  unfold byU Lin.actF hist
  rw [if_neg (Nat.not_lt_zero _)]
  have : (l.map (finA q putC)).getD m default = finA q putC (opAt l m) := by simp [opAt, List.getD, hm]
  rw [this]
theorem byU_end (q : Mach) (l : List Opn) (m c : Nat) (hm : m < l.length) : byU q l l.length m c = Lin.actF (l.map (byA q)) m c := by
  unfold byU Lin.actF
  rw [if_pos hm]
  have : (l.map (byA q)).getD m default = byA q (opAt l m) := by simp [opAt, List.getD, hm]
  rw [this]
theorem finA_y (q : Mach) (o : Opn) : (finA q putC o).y = 0 := by unfold finA; split <;> rfl
theorem byU_skip (q : Mach) (l : List Opn) (k : Nat) (h : ¬ (cAt q (opAt l k)).code = 0) (m c : Nat) : byU q l k m c = byU q l (k + 1) m c := by
  unfold byU
  by_cases e : m = k
  · subst e
    rw [if_neg (Nat.lt_irrefl _), if_pos (Nat.lt_succ_self _)]
    have : byA q (opAt l m) = finA q putC (opAt l m) := by
      unfold byA; rw [if_neg h]
      have := finA_y q (opAt l m)
      generalize finA q putC (opAt l m) = a at this
      cases a; simp only at this; subst this; rfl
    rw [this]
  · by_cases h1 : m < k
    · rw [if_pos h1, if_pos (by omega)]
    · rw [if_neg h1, if_neg (by omega)]
theorem byU_hit (q : Mach) (l : List Opn) (k : Nat) (h : (cAt q (opAt l k)).code = 0) (v : Int) (hv : v = cArg (cAt q (opAt l k))) (m c : Nat) (hc : c < 5) : updR (byU q l k) k 4 [.val (.int .i64 v)] m c = byU q l (k + 1) m c := by
  subst hv
  by_cases e : m = k
  · subst e
    have e2 : byU q l (m + 1) m c = Lin.actC (byA q (opAt l m)) c := by unfold byU; rw [if_pos (Nat.lt_succ_self _)]
    have e1 : ∀ c, byU q l m m c = Lin.actC (finA q putC (opAt l m)) c := by intro c; unfold byU; rw [if_neg (Nat.lt_irrefl _)]
    rw [e2]
    unfold byA; rw [if_pos h]
    rcases lt5 hc with rfl | rfl | rfl | rfl | rfl
    · simp [updR, e1]; rfl
    · simp [updR, e1]; rfl
    · simp [updR, e1]; rfl
    · simp [updR, e1]; rfl
    · simp [updR, Lin.actC]
  · have : ∀ (f : Nat → Nat → D) (c0 : Nat) (ds : List D), updR f k c0 ds m c = f m c := by
      intro f c0 ds; unfold updR; rw [if_neg (fun h => e h.1)]
    rw [this]
    unfold byU
    by_cases h1 : m < k
    · rw [if_pos h1, if_pos (by omega)]
    · rw [if_neg h1, if_neg (by omega)]
theorem putC_no {c : CallD} {told : List Int} {fin : Bool} (h : fin = false) : putC c told fin = (decide (c.code = 0), 0, true) := by unfold putC; rw [if_pos h]
theorem putC_bad {c : CallD} {told : List Int} {fin : Bool} (h : fin = true) (h2 : ¬ (told.length : Int) = 1) : putC c told fin = (false, 0, false) := by unfold putC; rw [if_neg (by rw [h]; decide), if_neg (by omega)]
theorem putC_yes {c : CallD} {told : List Int} {fin : Bool} (h : fin = true) (h2 : (told.length : Int) = 1) : putC c told fin = (decide (c.code = 0), told.getD 0 0, true) := by unfold putC; rw [if_neg (by rw [h]; decide), if_pos (by omega)]

theorem putC_any (c : CallD) (told : List Int) (fin : Bool) (ht : told.length ≤ 200) : Spec Tryd.prog GV 18 [callS c, intsV told, SV.b fin] [] (fun r ho => r = SV.tup [SV.b (putC c told fin).1, SV.i (putC c told fin).2.1, SV.b (putC c told fin).2.2] ∧ ho = []) := by
  refine start 23 0 Tryd.func18 rfl rfl rfl rfl ?_
  refine r1 ?_
  refine s1 3 0 1 rfl rfl rfl rfl rfl rfl trivial ?_
  refine s1 6 8 2 rfl rfl rfl rfl rfl rfl trivial ?_
  refine s1 7 16 3 rfl rfl rfl rfl rfl rfl trivial ?_
  refine s1 8 24 4 rfl rfl rfl rfl rfl rfl trivial ?_
  refine e1 32 rfl ?_
  refine keep [1, 2, 3] rfl ?_
  refine W_seq ?_
  refine r1 ?_
  refine s1 9 32 1 rfl rfl rfl rfl rfl rfl trivial ?_
  refine s1 10 40 2 rfl rfl rfl rfl rfl rfl trivial ?_
  refine e1 48 rfl ?_
  refine keep [1, 3, 10] rfl ?_
  refine q1 rfl (fun hc1 => ?_) (fun hc1 => ?_)
  · skip
    try simp only [cs, ne_eq] at hc1
    refine r1 ?_
    refine s1 11 48 1 rfl rfl rfl rfl rfl rfl trivial ?_
    refine s1 12 56 2 rfl rfl rfl rfl rfl rfl (by first | trivial | omega) ?_
    refine s1 13 64 3 rfl rfl rfl rfl rfl rfl (by first | trivial | omega) ?_
    refine s1 6 72 4 rfl rfl rfl rfl rfl rfl trivial ?_
    refine s1 7 80 5 rfl rfl rfl rfl rfl rfl trivial ?_
    refine s1 8 88 6 rfl rfl rfl rfl rfl rfl trivial ?_
    refine e1 96 rfl ?_
    refine keep [6, 7, 8] rfl ?_
    refine W_ret ?_
    refine tr ?_
    exact out3 6 7 8 (SV.b (putC c told fin).1) (SV.i (putC c told fin).2.1) (SV.b (putC c told fin).2.2) (π := []) (hout := []) Tryd.results18 rfl rfl rfl (by rw [putC_no hc1]; rfl) (by rw [putC_no hc1]; rfl) (by rw [putC_no hc1]; rfl) rfl rfl trivial ⟨rfl, rfl⟩
  · skip
    try simp only [cs, ne_eq] at hc1
    refine W_skip ?_
    refine tn ?_
    refine W_seq ?_
    refine r1 ?_
    refine s1 14 48 1 rfl rfl rfl rfl rfl rfl trivial ?_
    refine s1 15 56 2 rfl rfl rfl rfl rfl rfl (by first | trivial | omega) ?_
    refine s1 16 64 3 rfl rfl rfl rfl rfl rfl (by first | trivial | omega) ?_
    refine e1 72 rfl ?_
    refine keep [1, 3, 16] rfl ?_
    refine q1 rfl (fun hc3 => ?_) (fun hc3 => ?_)
    · skip
      try simp only [cs, ne_eq] at hc3
      refine r1 ?_
      refine s1 6 72 1 rfl rfl rfl rfl rfl rfl trivial ?_
      refine s1 7 80 2 rfl rfl rfl rfl rfl rfl trivial ?_
      refine s1 8 88 3 rfl rfl rfl rfl rfl rfl trivial ?_
      refine e1 96 rfl ?_
      refine keep [6, 7, 8] rfl ?_
      refine W_ret ?_
      refine tr ?_
      exact out3 6 7 8 (SV.b (putC c told fin).1) (SV.i (putC c told fin).2.1) (SV.b (putC c told fin).2.2) (π := []) (hout := []) Tryd.results18 rfl rfl rfl (by rw [putC_bad hc1 hc3]; rfl) (by rw [putC_bad hc1 hc3]; rfl) (by rw [putC_bad hc1 hc3]; rfl) rfl rfl trivial ⟨rfl, rfl⟩
    · skip
      try simp only [cs, ne_eq] at hc3
      refine W_skip ?_
      refine tn ?_
      refine rd1 rfl ?_
      refine d1 17 72 1 rfl rfl rfl rfl rfl rfl trivial ?_
      refine d1 18 80 2 rfl rfl rfl rfl rfl rfl (by first | trivial | omega) ?_
      refine d1 19 88 3 rfl rfl rfl rfl rfl rfl (by first | trivial | omega) ?_
      refine d1 20 96 4 rfl rfl rfl rfl rfl rfl trivial ?_
      refine d1 21 104 5 rfl rfl rfl rfl rfl rfl (by first | trivial | omega) ?_
      refine d1 22 112 6 rfl rfl rfl rfl rfl rfl (by first | trivial | omega) ?_
      refine d1 6 120 7 rfl rfl rfl rfl rfl rfl trivial ?_
      refine d1 7 128 8 rfl rfl rfl rfl rfl rfl trivial ?_
      refine d1 8 136 9 rfl rfl rfl rfl rfl rfl trivial ?_
      refine de1 144 rfl (by kernel_rfl) ?_
      refine keep [6, 7, 8] rfl ?_
      refine W_ret ?_
      exact out3 6 7 8 (SV.b (putC c told fin).1) (SV.i (putC c told fin).2.1) (SV.b (putC c told fin).2.2) (π := []) (hout := []) Tryd.results18 rfl rfl rfl (by rw [putC_yes hc1 (by omega)]; rfl) (by rw [putC_yes hc1 (by omega)]; rfl) (by rw [putC_yes hc1 (by omega)]; rfl) rfl rfl trivial ⟨rfl, rfl⟩

theorem putC_nil (c : CallD) : Spec Tryd.prog GV 18 [callS c, .d .nils, SV.b false] [] (fun r ho => r = SV.tup [SV.b (putC c [] false).1, SV.i (putC c [] false).2.1, SV.b (putC c [] false).2.2] ∧ ho = []) := by
  refine start 23 0 Tryd.func18 rfl rfl rfl rfl ?_
  refine r1 ?_
  refine s1 3 0 1 rfl rfl rfl rfl rfl rfl trivial ?_
  refine s1 6 8 2 rfl rfl rfl rfl rfl rfl trivial ?_
  refine s1 7 16 3 rfl rfl rfl rfl rfl rfl trivial ?_
  refine s1 8 24 4 rfl rfl rfl rfl rfl rfl trivial ?_
  refine e1 32 rfl ?_
  refine keep [1, 2, 3] rfl ?_
  refine W_seq ?_
  refine r1 ?_
  refine s1 9 32 1 rfl rfl rfl rfl rfl rfl trivial ?_
  refine s1 10 40 2 rfl rfl rfl rfl rfl rfl trivial ?_
  refine e1 48 rfl ?_
  refine keep [1, 3, 10] rfl ?_
  refine q1 rfl (fun hc1 => ?_) (fun hc1 => ?_)
  · skip
    try simp only [cs, ne_eq] at hc1
    refine r1 ?_
    refine s1 11 48 1 rfl rfl rfl rfl rfl rfl trivial ?_
    refine s1 12 56 2 rfl rfl rfl rfl rfl rfl (by first | trivial | omega) ?_
    refine s1 13 64 3 rfl rfl rfl rfl rfl rfl (by first | trivial | omega) ?_
    refine s1 6 72 4 rfl rfl rfl rfl rfl rfl trivial ?_
    refine s1 7 80 5 rfl rfl rfl rfl rfl rfl trivial ?_
    refine s1 8 88 6 rfl rfl rfl rfl rfl rfl trivial ?_
    refine e1 96 rfl ?_
    refine keep [6, 7, 8] rfl ?_
    refine W_ret ?_
    refine tr ?_
    exact out3 6 7 8 (SV.b (putC c [] false).1) (SV.i (putC c [] false).2.1) (SV.b (putC c [] false).2.2) (π := []) (hout := []) Tryd.results18 rfl rfl rfl rfl rfl rfl rfl rfl trivial ⟨rfl, rfl⟩
  · skip
    exact absurd hc1 (by decide)

theorem words_count  : Spec Tryd.prog GV 14 [] [] (fun r ho => r = .sl 0 0 1 ∧ ho = [some (.rows 3 1 1 (intsF [0]))]) := by
  refine start 2 0 Tryd.func14 rfl rfl rfl rfl ?_
  refine r1 ?_
  refine s1 0 0 1 rfl rfl rfl rfl rfl rfl trivial ?_
  refine e1 8 rfl ?_
  refine keep [] rfl ?_
  refine r1 ?_
  refine s1 1 8 1 rfl rfl rfl rfl rfl rfl trivial ?_
  refine s1 0 16 2 rfl rfl rfl rfl rfl rfl trivial ?_
  refine e1 24 rfl ?_
  refine keep [0] rfl ?_
  refine torows (k := 1) 8 1 (intsF [0]) rfl (by decide) (by decide) (fun i c hi hc => by obtain rfl : i = 0 := (by omega); obtain rfl : c = 0 := (by omega); rfl) ?_
  refine W_ret ?_
  exact out1 0 (.sl 0 0 1) (π := [8]) (hout := [some (.rows 3 1 1 (intsF [0]))]) Tryd.results14 rfl rfl rfl rfl ⟨rfl, trivial⟩ ⟨rfl, rfl⟩

end Go.Proofs.YtnnjobmiepnedaaDoor.Nice
