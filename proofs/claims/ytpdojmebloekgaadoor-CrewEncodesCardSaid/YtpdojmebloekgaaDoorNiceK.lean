/- The rules in the form in which a walk uses them: numbers written out, values brought to their head. -/
import Derived.Test.YtpdojmebloekgaaDoorNiceJ
namespace Go.Proofs.YtpdojmebloekgaaDoor.Nice
open Go
set_option linter.unusedVariables false

/-- What a comparison's truth says: for 'simp only [cs]'. -/
theorem cs : (∀ (p : Prop) [Decidable p], (decide p = true) = p) ∧ (∀ (p : Prop) [Decidable p], (decide p = false) = ¬p) ∧ (∀ b : Bool, ((!b) = true) = (b = false)) ∧ (∀ b : Bool, ((!b) = false) = (b = true)) ∧
    (∀ (α : Type) [BEq α] [LawfulBEq α] (a b : α), ((a == b) = true) = (a = b)) ∧ (∀ (α : Type) [BEq α] [LawfulBEq α] (a b : α), ((a != b) = true) = ¬(a = b)) ∧ (∀ (α : Type) [BEq α] [LawfulBEq α] (a b : α), ((a == b) = false) = ¬(a = b)) ∧ (∀ (α : Type) [BEq α] [LawfulBEq α] (a b : α), ((a != b) = false) = (a = b)) ∧
    (∀ a b : Bool, ((a && b) = true) = (a = true ∧ b = true)) ∧ (∀ a b : Bool, ((a || b) = true) = (a = true ∨ b = true)) ∧ (∀ a b : Bool, ((a && b) = false) = (a = false ∨ b = false)) ∧ (∀ a b : Bool, ((a || b) = false) = (a = false ∧ b = false)) ∧
    (∀ a b : Int, (a ≥ b) = (b ≤ a)) ∧ (∀ a b : Int, (a > b) = (b < a)) ∧ (∀ a b : Nat, (a ≥ b) = (b ≤ a)) ∧ (∀ a b : Nat, (a > b) = (b < a)) ∧ (∀ a b : Int, (¬a < b) = (b ≤ a)) ∧ (∀ a b : Int, (¬a ≤ b) = (b < a)) ∧ (∀ (p : Prop) [Decidable p], (¬¬p) = p) :=
  ⟨fun p _ => propext decide_eq_true_iff, fun p _ => propext decide_eq_false_iff_not, fun b => by cases b <;> simp, fun b => by cases b <;> simp, fun α _ _ a b => propext beq_iff_eq, fun α _ _ a b => propext bne_iff_ne, fun α _ _ a b => propext beq_eq_false_iff_ne, fun α _ _ a b => propext bne_eq_false_iff_eq,
    fun a b => by cases a <;> cases b <;> simp, fun a b => by cases a <;> cases b <;> simp, fun a b => by cases a <;> cases b <;> simp, fun a b => by cases a <;> cases b <;> simp, fun a b => rfl, fun a b => rfl, fun a b => rfl, fun a b => rfl, fun a b => propext Int.not_lt, fun a b => propext Int.not_le, fun p _ => propext Decidable.not_not⟩
theorem ct : (∀ (p : Prop) [Decidable p], (decide p = true) = p) ∧ (∀ (p : Prop) [Decidable p], (decide p = false) = ¬p) ∧ (∀ b : Bool, ((!b) = true) = (b = false)) ∧ (∀ b : Bool, ((!b) = false) = (b = true)) ∧
    (∀ (α : Type) [BEq α] [LawfulBEq α] (a b : α), ((a == b) = true) = (a = b)) ∧ (∀ (α : Type) [BEq α] [LawfulBEq α] (a b : α), ((a == b) = false) = ¬(a = b)) ∧ (∀ a b : Int, (a > b) = (b < a)) ∧ (∀ a b : Nat, (a > b) = (b < a)) :=
  ⟨fun p _ => propext decide_eq_true_iff, fun p _ => propext decide_eq_false_iff_not, fun b => by cases b <;> simp, fun b => by cases b <;> simp, fun α _ _ a b => propext beq_iff_eq, fun α _ _ a b => propext beq_eq_false_iff_ne, fun a b => rfl, fun a b => rfl⟩

/-- A value brought to its head. -/
def SV.hd : SV → Option SV
  | .d (.val (.int k n)) => some (.d (.val (.int k n)))
  | .d (.val (.bool b)) => some (.d (.val (.bool b)))
  | .d (.val (.string s)) => some (.d (.val (.string s)))
  | .d (.val v) => some (.d (.val v))
  | .d .any => some (.d .any)
  | .d .nils => some (.d .nils)
  | .d (.vec k l f) => some (.d (.vec k l f))
  | .d (.pr p) => some (.d (.pr p))
  | .any => some .any
  | .vp k l f i c => some (.vp k l f i c)
  | .ptr n i c => some (.ptr n i c)
  | .sl n o l => some (.sl n o l)
  | .cs n c l => some (.cs n c l)
  | .op n b => some (.op n b)
  | .map n => some (.map n)
  | .fn f qs => some (.fn f qs)
  | .agg xs => some (.agg xs)
  | .tup xs => some (.tup xs)
  | .iface t x => some (.iface t x)
theorem SV.hd_eq {x y : SV} (h : x.hd = some y) : x = y := by
  unfold SV.hd at h
  split at h <;> cases h <;> rfl

def wrHO (h : Heap) : List (Nat × Option Blk) → Option Heap
  | [] => some h
  | (n, b) :: r => wrHO (upd h n b) r
theorem wrHO_eq : ∀ {wr : List (Nat × Option Blk)} {h h' : Heap}, wrHO h wr = some h' → wrH h wr = h'
  | [], h, h', e => by simp only [wrHO, Option.some.injEq] at e; exact e
  | (n, b) :: r, h, h', e => by rw [wrH]; exact wrHO_eq e

def sopH (C : Ctx) (nm : Nat) (o : Oper) (v : Operand → SV) (h : Heap) : Option (Prop × List (Nat × Blk) × SV × List (Nat × Option Blk) × Heap) :=
  match sop C nm o v h with
  | some (vc, bs, u, wr) => match u.hd, wrHO h wr with
    | some u', some h' => some (vc, bs, u', wr, h')
    | _, _ => none
  | none => none
theorem sopH_eq {C : Ctx} {nm : Nat} {o : Oper} {v : Operand → SV} {h h' : Heap} {vc : Prop} {bs : List (Nat × Blk)} {u : SV} {wr : List (Nat × Option Blk)} (e : sopH C nm o v h = some (vc, bs, u, wr, h')) : sop C nm o v h = some (vc, bs, u, wr) ∧ wrH h wr = h' := by
  unfold sopH at e
  split at e
  · next vc' bs' u' wr' hs =>
    split at e
    · next u2 h2 hu hw =>
      cases e
      rw [SV.hd_eq hu] at hs
      exact ⟨hs, wrHO_eq hw⟩
    · cases e
  · cases e

section
variable {C : Ctx} {ops : List Oper} {i : Nat} {o : Oper} {l : List Oper} {t : Nat → SV} {h h' : Heap} {nx : Nat} {K : St → Prop} {vc : Prop} {bs : List (Nat × Blk)} {u : SV} {wr : List (Nat × Option Blk)}

/-- One operation that writes a slot. -/
theorem s1 (d nm i' : Nat) (hi : i + 1 = i') (hnm : nx + 8 * i = nm) (hg : o.guard = none) (hdst : o.dst = some d) (hd : Nat.blt d C.sz = true) (e : sopH C nm o (opv C t) h = some (vc, bs, u, wr, h')) (hvc : vc)
    (k : wops C ops i' l ⟨upd t d u, h', nx⟩ none K) : wops C ops i (o :: l) ⟨t, h, nx⟩ none K := by
  subst hi; subst hnm
  obtain ⟨e1, e2⟩ := sopH_eq e
  refine st (σ := ⟨t, h, nx⟩) hg (by unfold dstOK; rw [hdst]; exact hd) e1 hvc ?_
  unfold St.app; rw [hdst, e2]; exact k
/-- One operation that writes no slot. -/
theorem s0 (nm i' : Nat) (hi : i + 1 = i') (hnm : nx + 8 * i = nm) (hg : o.guard = none) (hdst : o.dst = none) (e : sopH C nm o (opv C t) h = some (vc, bs, u, wr, h')) (hvc : vc)
    (k : wops C ops i' l ⟨t, h', nx⟩ none K) : wops C ops i (o :: l) ⟨t, h, nx⟩ none K := by
  subst hi; subst hnm
  obtain ⟨e1, e2⟩ := sopH_eq e
  refine st (σ := ⟨t, h, nx⟩) hg (by unfold dstOK; rw [hdst]) e1 hvc ?_
  unfold St.app; rw [hdst, e2]; exact k
/-- The value written otherwise. -/
theorem s1as (u' : SV) (d nm i' : Nat) (hi : i + 1 = i') (hnm : nx + 8 * i = nm) (hg : o.guard = none) (hdst : o.dst = some d) (hd : Nat.blt d C.sz = true) (e : sopH C nm o (opv C t) h = some (vc, bs, u, wr, h')) (hvc : vc) (hu : u = u')
    (k : wops C ops i' l ⟨upd t d u', h', nx⟩ none K) : wops C ops i (o :: l) ⟨t, h, nx⟩ none K := by
  subst hu; exact s1 d nm i' hi hnm hg hdst hd e hvc k

variable {acc : List FP}
theorem d1 (d nm i' : Nat) (hi : i + 1 = i') (hnm : nx + 8 * i = nm) (hg : o.guard = none) (hdst : o.dst = some d) (hd : Nat.blt d C.sz = true) (e : sopH C nm o (opv C t) h = some (vc, bs, u, wr, h')) (hvc : vc)
    (k : wops C ops i' l ⟨upd t d u, h', nx⟩ (some (acc ++ [(bs.map (·.1), wr.map (·.1))])) K) : wops C ops i (o :: l) ⟨t, h, nx⟩ (some acc) K := by
  subst hi; subst hnm
  obtain ⟨e1, e2⟩ := sopH_eq e
  refine st (σ := ⟨t, h, nx⟩) hg (by unfold dstOK; rw [hdst]; exact hd) e1 hvc ?_
  unfold St.app; rw [hdst, e2]; exact k
theorem d0 (nm i' : Nat) (hi : i + 1 = i') (hnm : nx + 8 * i = nm) (hg : o.guard = none) (hdst : o.dst = none) (e : sopH C nm o (opv C t) h = some (vc, bs, u, wr, h')) (hvc : vc)
    (k : wops C ops i' l ⟨t, h', nx⟩ (some (acc ++ [(bs.map (·.1), wr.map (·.1))])) K) : wops C ops i (o :: l) ⟨t, h, nx⟩ (some acc) K := by
  subst hi; subst hnm
  obtain ⟨e1, e2⟩ := sopH_eq e
  refine st (σ := ⟨t, h, nx⟩) hg (by unfold dstOK; rw [hdst]) e1 hvc ?_
  unfold St.app; rw [hdst, e2]; exact k
theorem d1as (u' : SV) (d nm i' : Nat) (hi : i + 1 = i') (hnm : nx + 8 * i = nm) (hg : o.guard = none) (hdst : o.dst = some d) (hd : Nat.blt d C.sz = true) (e : sopH C nm o (opv C t) h = some (vc, bs, u, wr, h')) (hvc : vc) (hu : u = u')
    (k : wops C ops i' l ⟨upd t d u', h', nx⟩ (some (acc ++ [(bs.map (·.1), wr.map (·.1))])) K) : wops C ops i (o :: l) ⟨t, h, nx⟩ (some acc) K := by
  subst hu; exact d1 d nm i' hi hnm hg hdst hd e hvc k

/- behind a guard whose slot is known -/
theorem g1 {A : Option (List FP)} (j : Nat) (want : Bool) (s d : Nat) (i' : Nat) (hi : i + 1 = i') (hg : o.guard = some (j, want)) (hs : gslot ops j = some s) (hb : t s = SV.b want) (hd : dstOK C o = true)
    (on : wops C ops i ({ o with guard := none } :: l) ⟨upd t s (SV.b want), h, nx⟩ A K) : wops C ops i (o :: l) ⟨t, h, nx⟩ A K := by
  refine st_guard (σ := ⟨t, h, nx⟩) hg hs hb (fun _ => on) (fun e => ?_) hd
  cases want <;> simp at e
theorem g0 {A : Option (List FP)} (j : Nat) (want : Bool) (s d : Nat) (i' : Nat) (hi : i + 1 = i') (hg : o.guard = some (j, want)) (hs : gslot ops j = some s) (hb : t s = SV.b (!want)) (hdst : o.dst = some d) (hd : Nat.blt d C.sz = true)
    (off : wops C ops i' l ⟨upd t d (.tup []), h, nx⟩ (A.map (· ++ [([], [])])) K) : wops C ops i (o :: l) ⟨t, h, nx⟩ A K := by
  subst hi
  have same : upd t s (SV.b (!want)) = t := by
    funext k; rw [upd_eq]; split
    · next e => subst e; exact hb.symm
    · rfl
  refine st_guard (σ := ⟨t, h, nx⟩) hg hs hb (fun e => ?_) (fun _ => ?_) (by unfold dstOK; rw [hdst]; exact hd)
  · cases want <;> simp at e
  · unfold St.app; rw [same, hdst]; exact off
/-- behind a guard that was itself passed by -/
theorem gz {A : Option (List FP)} (j : Nat) (want : Bool) (s d : Nat) (i' : Nat) (hi : i + 1 = i') (hg : o.guard = some (j, want)) (hs : gslot ops j = some s) (hb : t s = .tup []) (hdst : o.dst = some d) (hd : Nat.blt d C.sz = true)
    (off : wops C ops i' l ⟨upd t d (.tup []), h, nx⟩ (A.map (· ++ [([], [])])) K) : wops C ops i (o :: l) ⟨t, h, nx⟩ A K := by
  subst hi
  unfold wops
  refine .inl ⟨([], []), _, ⟨by unfold dstOK; rw [hdst]; exact hd, .inr ⟨?_, rfl, rfl⟩⟩, ?_⟩
  · unfold gOff; rw [hg]; exact ⟨s, hs, .inr hb⟩
  · unfold St.app; rw [hdst]; exact off
/-- A slot whose truth is asked for: both ways, with the slot known from then on. -/
theorem ask {A : Option (List FP)} (s : Nat) {b : Bool} (hb : (t s).hd = some (SV.b b)) (on : b = true → wops C ops i l ⟨upd t s (SV.b true), h, nx⟩ A K) (off : b = false → wops C ops i l ⟨upd t s (SV.b false), h, nx⟩ A K) : wops C ops i l ⟨t, h, nx⟩ A K := by
  have hb := SV.hd_eq hb
  have same : upd t s (SV.b b) = t := by
    funext k; rw [upd_eq]; split
    · next e => subst e; exact hb.symm
    · rfl
  cases b with
  | true => rw [← same]; exact on rfl
  | false => rw [← same]; exact off rfl

/- calls -/
theorem c1 {f : FuncId} {args : List SV} {hin : List Blk} {r : SV} {hout : List (Option Blk)} (hF : Spec C.P C.G f args hin (fun r' ho => r' = r ∧ ho = hout)) {x : Operand} {cargs : Array Operand} {tys : Array TypeId} {caps : List SV} {fn : Func} {r' : SV}
    (π π2 : List Nat) (d nm i' : Nat) (hi : i + 1 = i') (hnm : nx + 8 * i = nm) (hp : π ++ newNames nm (hout.length - hin.length) = π2) (hg : o.guard = none) (hdst : o.dst = some d) (hd : Nat.blt d C.sz = true) (ho : o.op = .call { callee := .value x, args := cargs, argTypes := tys }) (hx : opv C t x = .fn f caps) (hf : C.P.funcs[f]? = some fn) (hfn : fnOK fn = true)
    (hargs : mapV (opv C t) cargs.toList ++ caps = renL π args) (side : (Nat.beq π.length hin.length && (nodupB π && (hUnder hin.length (hin.map some) && underL hin.length args))) = true)
    (side2 : (Nat.ble hin.length hout.length && Nat.ble hout.length (hin.length + 8)) = true) (hbs : bsHeap h (bsOf π π hin)) (hr : (ren π2 r).hd = some r') (hw : wrHO h (wrOf π2 π2 hout) = some h')
    (k : wops C ops i' l ⟨upd t d r', h', nx⟩ none K) : wops C ops i (o :: l) ⟨t, h, nx⟩ none K := by
  subst hi; subst hnm; subst hp
  refine st_call (σ := ⟨t, h, nx⟩) π hF hg (by unfold dstOK; rw [hdst]; exact hd) ho hx hf hfn hargs side side2 hbs ?_
  unfold St.app; rw [hdst, SV.hd_eq hr, wrHO_eq hw]; exact k
theorem c0 {f : FuncId} {args : List SV} {hin : List Blk} {r : SV} {hout : List (Option Blk)} (hF : Spec C.P C.G f args hin (fun r' ho => r' = r ∧ ho = hout)) {x : Operand} {cargs : Array Operand} {tys : Array TypeId} {caps : List SV} {fn : Func}
    (π π2 : List Nat) (nm i' : Nat) (hi : i + 1 = i') (hnm : nx + 8 * i = nm) (hp : π ++ newNames nm (hout.length - hin.length) = π2) (hg : o.guard = none) (hdst : o.dst = none) (ho : o.op = .call { callee := .value x, args := cargs, argTypes := tys }) (hx : opv C t x = .fn f caps) (hf : C.P.funcs[f]? = some fn) (hfn : fnOK fn = true)
    (hargs : mapV (opv C t) cargs.toList ++ caps = renL π args) (side : (Nat.beq π.length hin.length && (nodupB π && (hUnder hin.length (hin.map some) && underL hin.length args))) = true)
    (side2 : (Nat.ble hin.length hout.length && Nat.ble hout.length (hin.length + 8)) = true) (hbs : bsHeap h (bsOf π π hin)) (hw : wrHO h (wrOf π2 π2 hout) = some h')
    (k : wops C ops i' l ⟨t, h', nx⟩ none K) : wops C ops i (o :: l) ⟨t, h, nx⟩ none K := by
  subst hi; subst hnm; subst hp
  refine st_call (σ := ⟨t, h, nx⟩) π hF hg (by unfold dstOK; rw [hdst]) ho hx hf hfn hargs side side2 hbs ?_
  unfold St.app; rw [hdst, wrHO_eq hw]; exact k
theorem dc1 {f : FuncId} {args : List SV} {hin : List Blk} {r : SV} {hout : List (Option Blk)} (hF : Spec C.P C.G f args hin (fun r' ho => r' = r ∧ ho = hout)) {x : Operand} {cargs : Array Operand} {tys : Array TypeId} {caps : List SV} {fn : Func} {r' : SV}
    (π π2 : List Nat) (d nm i' : Nat) (hi : i + 1 = i') (hnm : nx + 8 * i = nm) (hp : π ++ newNames nm (hout.length - hin.length) = π2) (hg : o.guard = none) (hdst : o.dst = some d) (hd : Nat.blt d C.sz = true) (ho : o.op = .call { callee := .value x, args := cargs, argTypes := tys }) (hx : opv C t x = .fn f caps) (hf : C.P.funcs[f]? = some fn) (hfn : fnOK fn = true)
    (hargs : mapV (opv C t) cargs.toList ++ caps = renL π args) (side : (Nat.beq π.length hin.length && (nodupB π && (hUnder hin.length (hin.map some) && underL hin.length args))) = true)
    (side2 : (Nat.ble hin.length hout.length && Nat.ble hout.length (hin.length + 8)) = true) (hbs : bsHeap h (bsOf π π hin)) (hr : (ren π2 r).hd = some r') (hw : wrHO h (wrOf π2 π2 hout) = some h')
    (k : wops C ops i' l ⟨upd t d r', h', nx⟩ (some (acc ++ [((bsOf π π hin).map (·.1), (wrOf π2 π2 hout).map (·.1))])) K) : wops C ops i (o :: l) ⟨t, h, nx⟩ (some acc) K := by
  subst hi; subst hnm; subst hp
  refine st_call (σ := ⟨t, h, nx⟩) π hF hg (by unfold dstOK; rw [hdst]; exact hd) ho hx hf hfn hargs side side2 hbs ?_
  unfold St.app; rw [hdst, SV.hd_eq hr, wrHO_eq hw]; exact k

/- comparisons of structs -/
theorem sEq {op : BinOp} {ty ty' : TypeId} {y z : Operand} {xs ys : List SV} {fs : Array Field} {b r : Bool} (d nm i' : Nat) (hi : i + 1 = i') (hnm : nx + 8 * i = nm) (hg : o.guard = none) (hdst : o.dst = some d) (hd : Nat.blt d C.sz = true) (ho : o.op = .binOp op ty y z ty')
    (hy : opv C t y = .agg xs) (hz : opv C t z = .agg ys) (hfs : C.P.underlying ty = some (.struct fs)) (hp : C.P.stoodInHeld ty = false) (hm : C.P.eqGuardType C.P.depth ty = false) (hb : eqSV C.P xs ys fs.toList = some b) (hop : (op = .eql ∧ r = b) ∨ (op = .neq ∧ r = !b))
    (k : wops C ops i' l ⟨upd t d (SV.b r), h, nx⟩ none K) : wops C ops i (o :: l) ⟨t, h, nx⟩ none K := by
  subst hi; subst hnm
  refine st_ok (σ := ⟨t, h, nx⟩) hg (by unfold dstOK; rw [hdst]; exact hd) (structEq_ok ho hy hz hfs hp hm hb hop) (fun p hp => by cases hp) rfl ?_
  unfold St.app; rw [hdst]; exact k
theorem dEq {op : BinOp} {ty ty' : TypeId} {y z : Operand} {xs ys : List SV} {fs : Array Field} {b r : Bool} (d nm i' : Nat) (hi : i + 1 = i') (hnm : nx + 8 * i = nm) (hg : o.guard = none) (hdst : o.dst = some d) (hd : Nat.blt d C.sz = true) (ho : o.op = .binOp op ty y z ty')
    (hy : opv C t y = .agg xs) (hz : opv C t z = .agg ys) (hfs : C.P.underlying ty = some (.struct fs)) (hp : C.P.stoodInHeld ty = false) (hm : C.P.eqGuardType C.P.depth ty = false) (hb : eqSV C.P xs ys fs.toList = some b) (hop : (op = .eql ∧ r = b) ∨ (op = .neq ∧ r = !b))
    (k : wops C ops i' l ⟨upd t d (SV.b r), h, nx⟩ (some (acc ++ [([], [])])) K) : wops C ops i (o :: l) ⟨t, h, nx⟩ (some acc) K := by
  subst hi; subst hnm
  refine st_ok (σ := ⟨t, h, nx⟩) hg (by unfold dstOK; rw [hdst]; exact hd) (structEq_ok ho hy hz hfs hp hm hb hop) (fun p hp => by cases hp) rfl ?_
  unfold St.app; rw [hdst]; exact k

/- maps -/
theorem sLook {ty kt el : TypeId} {y z : Operand} {ok : Bool} {kind : TypeDesc} {n : Nat} {es : List (Value × D)} {key : Value} {zl : Value} {u : SV} (r : Option D) (hr : mfind kind key es = some r) (d nm i' : Nat) (hi : i + 1 = i') (hnm : nx + 8 * i = nm) (hg : o.guard = none) (hdst : o.dst = some d) (hd : Nat.blt d C.sz = true)
    (ho : o.op = .lookup ty y z ok) (ht : C.P.underlying ty = some (.map kt el)) (hk : C.P.underlying kt = some kind) (hp : plainKey kind = true) (hy : opv C t y = .map n) (hz : opv C t z = .d (.val key)) (hn : h n = some (.map es)) (hzl : (C.P.info? el).bind (·.zero) = some zl) (h1 : zl.oneCell' = true)
    (hu : (foundS ok (orZero r zl) r.isSome).hd = some u) (k : wops C ops i' l ⟨upd t d u, h, nx⟩ none K) : wops C ops i (o :: l) ⟨t, h, nx⟩ none K := by
  subst hi; subst hnm
  refine st_ok (σ := ⟨t, h, nx⟩) hg (by unfold dstOK; rw [hdst]; exact hd) (lookup_ok ho ht hk hp hy hz hr hzl h1) (fun p hp => by rw [List.mem_singleton.1 hp]; exact hn) rfl ?_
  unfold St.app; rw [hdst, SV.hd_eq hu]; exact k
theorem dLook {ty kt el : TypeId} {y z : Operand} {ok : Bool} {kind : TypeDesc} {n : Nat} {es : List (Value × D)} {key : Value} {zl : Value} {u : SV} (r : Option D) (hr : mfind kind key es = some r) (d nm i' : Nat) (hi : i + 1 = i') (hnm : nx + 8 * i = nm) (hg : o.guard = none) (hdst : o.dst = some d) (hd : Nat.blt d C.sz = true)
    (ho : o.op = .lookup ty y z ok) (ht : C.P.underlying ty = some (.map kt el)) (hk : C.P.underlying kt = some kind) (hp : plainKey kind = true) (hy : opv C t y = .map n) (hz : opv C t z = .d (.val key)) (hn : h n = some (.map es)) (hzl : (C.P.info? el).bind (·.zero) = some zl) (h1 : zl.oneCell' = true)
    (hu : (foundS ok (orZero r zl) r.isSome).hd = some u) (k : wops C ops i' l ⟨upd t d u, h, nx⟩ (some (acc ++ [([n], [])])) K) : wops C ops i (o :: l) ⟨t, h, nx⟩ (some acc) K := by
  subst hi; subst hnm
  refine st_ok (σ := ⟨t, h, nx⟩) hg (by unfold dstOK; rw [hdst]; exact hd) (lookup_ok ho ht hk hp hy hz hr hzl h1) (fun p hp => by rw [List.mem_singleton.1 hp]; exact hn) rfl ?_
  unfold St.app; rw [hdst, SV.hd_eq hu]; exact k
theorem sMap {ty kt el : TypeId} {y z q : Operand} {kind : TypeDesc} {n : Nat} {es : List (Value × D)} {key : Value} {x : D} {r : Option D} (hr : mfind kind key es = some r) (nm i' : Nat) (hi : i + 1 = i') (hnm : nx + 8 * i = nm) (hg : o.guard = none) (hdst : o.dst = none)
    (ho : o.op = .mapUpdate ty y z q) (ht : C.P.underlying ty = some (.map kt el)) (hk : C.P.underlying kt = some kind) (hp : plainKey kind = true) (hy : opv C t y = .map n) (hz : opv C t z = .d (.val key)) (hq : opv C t q = .d x) (hn : h n = some (.map es))
    (k : wops C ops i' l ⟨t, upd h n (some (.map (mset kind key x es))), nx⟩ none K) : wops C ops i (o :: l) ⟨t, h, nx⟩ none K := by
  subst hi; subst hnm
  refine st_ok (σ := ⟨t, h, nx⟩) hg (by unfold dstOK; rw [hdst]) (mapUpdate_ok ho ht hk hp hy hz hq hr) (fun p hp => by rw [List.mem_singleton.1 hp]; exact hn) (by simp [keysIn]) ?_
  unfold St.app; rw [hdst]; exact k

/- ends of regions -/
theorem e1 (nx' : Nat) (hn : nx + 8 * ops.length = nx') (k : K ⟨t, h, nx'⟩) : wops C ops i [] ⟨t, h, nx⟩ none K := by subst hn; exact ⟨trivial, k⟩
theorem de1 (nx' : Nat) (hn : nx + 8 * ops.length = nx') (hc : fpOK ops acc = true) (k : K ⟨t, h, nx'⟩) : wops C ops i [] ⟨t, h, nx⟩ (some acc) K := by subst hn; exact ⟨hc, k⟩
end

section
variable {C : Ctx} {Q : Exit → St → Prop} {σ : St}
theorem r1 {id : Nat} {ops : Array Oper} {y : Code} (k : wops C ops.toList 0 ops.toList σ none (fun σ' => W C y Q σ')) : W C (.seq (.region id ops false) y) Q σ := W_seq (W_region k)
theorem r0 {id : Nat} {ops : Array Oper} (k : wops C ops.toList 0 ops.toList σ none (fun σ' => Q .normal σ')) : W C (.region id ops false) Q σ := W_region k
theorem rd1 {id : Nat} {ops : Array Oper} {y : Code} (hm : C.P.follows .mixedOrders = true) (k : wops C ops.toList 0 ops.toList σ (some []) (fun σ' => W C y Q σ')) : W C (.seq (.region id ops true) y) Q σ := W_seq (W_region_draw hm k)
theorem rd0 {id : Nat} {ops : Array Oper} (hm : C.P.follows .mixedOrders = true) (k : wops C ops.toList 0 ops.toList σ (some []) (fun σ' => Q .normal σ')) : W C (.region id ops true) Q σ := W_region_draw hm k
theorem tn {K : St → Prop} (k : K σ) : thenQ K Q .normal σ := k
theorem tx {K : St → Prop} {id : Nat} (k : Q (.exit id) σ) : thenQ K Q (.exit id) σ := k
theorem tr {K : St → Prop} (k : Q .ret σ) : thenQ K Q .ret σ := k
theorem bn {id : Nat} (k : Q .normal σ) : inBlockQ id Q .normal σ := k
theorem bx {id : Nat} (k : Q .normal σ) : inBlockQ id Q (.exit id) σ := by simp only [inBlockQ, if_true]; exact k
theorem bo {id id' : Nat} (hne : Nat.beq id' id = false) (k : Q (.exit id') σ) : inBlockQ id Q (.exit id') σ := by
  simp only [inBlockQ]; rw [if_neg (fun e => by subst e; simp at hne)]; exact k
theorem br {id : Nat} (k : Q .ret σ) : inBlockQ id Q .ret σ := k
theorem q1 {t : Nat → SV} {h : Heap} {nx : Nat} {c : Operand} {x y : Code} {b : Bool} (hc : (opv C t c).hd = some (SV.b b)) (ht : b = true → W C x Q ⟨t, h, nx⟩) (hf : b = false → W C y Q ⟨t, h, nx⟩) : W C (.cond c x y) Q ⟨t, h, nx⟩ :=
  W_cond (σ := ⟨t, h, nx⟩) (SV.hd_eq hc) ht hf

/-- Only some slots are kept, their values brought to their heads. -/
def keepO (t : Nat → SV) : List Nat → Option (List (Nat × SV))
  | [] => some []
  | k :: r => match (t k).hd, keepO t r with
    | some u, some l => some ((k, u) :: l)
    | _, _ => none
theorem keepO_sub {t : Nat → SV} : ∀ {ks : List Nat} {l : List (Nat × SV)}, keepO t ks = some l → ∀ n, tOf l n = .any ∨ tOf l n = t n
  | [], l, e, n => by simp [keepO] at e; subst e; exact .inl rfl
  | k :: r, l, e, n => by
    simp only [keepO] at e
    split at e
    · next u l' hu hl =>
      cases e
      simp only [tOf]
      cases hb : Nat.beq n k with
      | true => have := Nat.eq_of_beq_eq_true hb; subst this; exact .inr (SV.hd_eq hu).symm
      | false => exact keepO_sub hl n
    · cases e
theorem keep {t : Nat → SV} {h : Heap} {nx : Nat} {c : Code} (ks : List Nat) {l : List (Nat × SV)} (e : keepO t ks = some l) (k : W C c Q ⟨tOf l, h, nx⟩) : W C c Q ⟨t, h, nx⟩ := by
  intro M F pin ρ a w hs
  refine k M F pin ρ a w ⟨⟨fun n => ?_, hs.sz, hs.df, hs.hr, hs.pn, hs.pm, hs.gl⟩, hs.fr⟩
  rcases keepO_sub e n with h | h
  · show VR M ρ (tOf l n) _; rw [h]; exact .any _
  · show VR M ρ (tOf l n) _; rw [h]; exact hs.tm n
end

/-- The start of a walk. -/
theorem start {P : Program} {G : Nat → SV} {f : FuncId} {fn : Func} {c : Code} {args : List SV} {hin : List Blk} {post : SV → List (Option Blk) → Prop} (sz m : Nat) (hf : P.funcs[f]? = some fn) (hb : fn.body = some c) (hsz : fn.ntmps = sz) (hm : hin.length = m)
    (hn : Nat.ble args.length sz = true) (h : W ⟨P, sz, m, G⟩ c (outQ ⟨P, sz, m, G⟩ fn post) ⟨tOf (argT 0 args), hOf (hin.map some), m⟩) : Spec P G f args hin post := by
  subst hsz; subst hm
  refine fn_intro hf hb hn ?_
  unfold stOf
  rw [List.length_map]
  exact h
end Go.Proofs.YtpdojmebloekgaaDoor.Nice
