/- The forms of steps in which a walk uses them, beside others. -/
import Derived.Test.YtpdojmebloekgaaDoorZCoG
namespace Go.Proofs.YtpdojmebloekgaaDoor.Nice.Co
open Go Go.Conc
set_option linter.unusedVariables false
set_option linter.unusedSimpArgs false


/-- A call whose answer is one: in any region. -/
theorem st_call {C : Ctx} {ops : List Oper} {i : Nat} {o : Oper} {l : List Oper} {σ : St} {acc : Option (List FP)} {K : St → Prop} {x : Operand} {cargs : Array Operand} {tys : Array TypeId} {f : FuncId} {caps : List SV} {fn : Func} {args : List SV} {hin : List Blk} {r : SV} {hout : List (Option Blk)}
    (π : List Nat) (hF : Spec C.P C.G f args hin (fun r' ho => r' = r ∧ ho = hout)) (hg : o.guard = none) (hd : dstOK C o = true) (ho : o.op = .call { callee := .value x, args := cargs, argTypes := tys }) (hx : opv C σ.t x = .fn f caps) (hf : C.P.funcs[f]? = some fn) (hfn : fnOK fn = true)
    (hargs : mapV (opv C σ.t) cargs.toList ++ caps = renL π args)
    (side : (Nat.beq π.length hin.length && (nodupB π && (hUnder hin.length (hin.map some) && underL hin.length args))) = true)
    (side2 : (Nat.ble hin.length hout.length && Nat.ble hout.length (hin.length + 8)) = true)
    (hbs : bsHeap σ.h (bsOf π π hin))
    (k : wops C ops (i + 1) l (σ.app o.dst (ren (π ++ newNames (σ.nx + 8 * i) (hout.length - hin.length)) r) (wrOf (π ++ newNames (σ.nx + 8 * i) (hout.length - hin.length)) (π ++ newNames (σ.nx + 8 * i) (hout.length - hin.length)) hout))
      (acc.map (· ++ [((bsOf π π hin).map (·.1), (wrOf (π ++ newNames (σ.nx + 8 * i) (hout.length - hin.length)) (π ++ newNames (σ.nx + 8 * i) (hout.length - hin.length)) hout).map (·.1))])) K) : wops C ops i (o :: l) σ acc K := by
  have hok := call_ok (nm := σ.nx + 8 * i) ho hx hf hfn hF π hargs side
  simp only [Bool.and_eq_true] at side side2
  refine st_ok hg hd (fun K A F M ρ a h w h0 h1 h2 h3 h4 h5 gd b ops i rest k cs hoi hw hb hK => hok K A F M ρ a h w h0 h1 h2 h3 h4 h5 gd b ops i rest k cs hoi hw hb fun A' M' ρ' u wr u' w' g0 g1 g2 g3 g4 => hK A' M' ρ' u wr u' w' g0 g1 g2 g3 ?_) (bsHeap_mem hbs) (keysIn_call (Nat.eq_of_beq_eq_true side.1) hout (Nat.le_of_ble_eq_true side2.2) (Nat.le_of_ble_eq_true side2.1)) k
  obtain ⟨r', ho', π2, ⟨rfl, rfl⟩, rfl, rfl, rfl⟩ := g4
  exact ⟨rfl, rfl⟩

/-- A call in a region of the text's order: whatever it answers. -/
theorem st_callQ {C : Ctx} {ops : List Oper} {i : Nat} {o : Oper} {l : List Oper} {σ : St} {K : St → Prop} {x : Operand} {cargs : Array Operand} {tys : Array TypeId} {f : FuncId} {caps : List SV} {fn : Func} {args : List SV} {hin : List Blk} {post : SV → List (Option Blk) → Prop}
    (π : List Nat) (hF : Spec C.P C.G f args hin post) (hg : o.guard = none) (hd : dstOK C o = true) (ho : o.op = .call { callee := .value x, args := cargs, argTypes := tys }) (hx : opv C σ.t x = .fn f caps) (hf : C.P.funcs[f]? = some fn) (hfn : fnOK fn = true)
    (hargs : mapV (opv C σ.t) cargs.toList ++ caps = renL π args)
    (side : (Nat.beq π.length hin.length && (nodupB π && (hUnder hin.length (hin.map some) && underL hin.length args))) = true)
    (hbs : bsHeap σ.h (bsOf π π hin))
    (k : ∀ r hout, post r hout → wops C ops (i + 1) l (σ.app o.dst (ren (π ++ newNames (σ.nx + 8 * i) (hout.length - hin.length)) r) (wrOf (π ++ newNames (σ.nx + 8 * i) (hout.length - hin.length)) (π ++ newNames (σ.nx + 8 * i) (hout.length - hin.length)) hout)) none K) : wops C ops i (o :: l) σ none K := by
  have hok := call_ok (nm := σ.nx + 8 * i) ho hx hf hfn hF π hargs side
  unfold wops
  refine .inr ⟨rfl, hd, by simp [gOn, hg], _, _, hok, bsHeap_mem hbs, ?_⟩
  rintro u wr ⟨r, hout, π2, h1, rfl, rfl, rfl⟩
  exact k r hout h1

/-- A block of one's own, laid still: from now on its rows are data. -/
theorem W_freeze {C : Ctx} {c : Code} {Q : Exit → St → Prop} {σ : St} (s n len : Nat) {ty k L : Nat} {f : Nat → Nat → D} (hs : σ.t s = .sl n 0 len) (hn : σ.h n = some (.rows ty k L f)) (hl : len ≤ L)
    (h : W C c Q ⟨upd σ.t s (.d (.vec k len f)), upd σ.h n none, σ.nx⟩) : W C c Q σ := by
  refine W_turn (fun M F pin ρ a w hsr => ?_) h
  have hv := hsr.tm s
  rw [hs] at hv
  obtain ⟨M', g1, g2, g3⟩ := HR.still hsr.hr hn hl hv
  refine ⟨M', ρ, g1, ⟨⟨fun j => ?_, hsr.sz, hsr.df, g2, hsr.pn, hsr.pm, fun g ρ => (hsr.gl g ρ).mono g1 (Names.le_refl _)⟩, hsr.fr⟩⟩
  show VR M' ρ (upd σ.t s _ j) _
  rw [upd_eq]
  split
  · next e => subst e; exact g3
  · exact (hsr.tm j).mono g1 (Names.le_refl _)

def sopH (C : Ctx) (nm : Nat) (o : Oper) (v : Operand → SV) (h : Heap) : Option (Prop × List (Nat × Blk) × SV × List (Nat × Option Blk) × Heap) :=
  match sopC C nm o v h with
  | some (vc, bs, u, wr) => match u.hd, wrHO h wr with
    | some u', some h' => some (vc, bs, u', wr, h')
    | _, _ => none
  | none => none
theorem sopH_eq {C : Ctx} {nm : Nat} {o : Oper} {v : Operand → SV} {h h' : Heap} {vc : Prop} {bs : List (Nat × Blk)} {u : SV} {wr : List (Nat × Option Blk)} (e : sopH C nm o v h = some (vc, bs, u, wr, h')) : sopC C nm o v h = some (vc, bs, u, wr) ∧ wrH h wr = h' := by
  unfold sopH at e
  split at e
  · next vc' bs' u' wr' hs =>
    split at e
    · next u2 h2 hu hw =>
      cases e
      rw [SV.hd_eq hu] at hs
      exact ⟨hs, wrHO_eq hw⟩
    · cases e
  · cases e

section
variable {C : Ctx} {ops : List Oper} {i : Nat} {o : Oper} {l : List Oper} {t : Nat → SV} {h h' : Heap} {nx : Nat} {K : St → Prop} {vc : Prop} {bs : List (Nat × Blk)} {u : SV} {wr : List (Nat × Option Blk)} {acc : List FP}
/-- One operation that writes a slot. -/
theorem s1 (d nm i' : Nat) (hi : i + 1 = i') (hnm : nx + 8 * i = nm) (hg : o.guard = none) (hdst : o.dst = some d) (hd : Nat.blt d C.sz = true) (e : sopH C nm o (opv C t) h = some (vc, bs, u, wr, h')) (hvc : vc)
    (k : wops C ops i' l ⟨upd t d u, h', nx⟩ none K) : wops C ops i (o :: l) ⟨t, h, nx⟩ none K := by
  subst hi; subst hnm
  obtain ⟨e1, e2⟩ := sopH_eq e
  refine st (σ := ⟨t, h, nx⟩) hg (by unfold dstOK; rw [hdst]; exact hd) e1 hvc ?_
  unfold St.app; rw [hdst, e2]; exact k

/-- One operation that writes no slot. -/
theorem s0 (nm i' : Nat) (hi : i + 1 = i') (hnm : nx + 8 * i = nm) (hg : o.guard = none) (hdst : o.dst = none) (e : sopH C nm o (opv C t) h = some (vc, bs, u, wr, h')) (hvc : vc)
    (k : wops C ops i' l ⟨t, h', nx⟩ none K) : wops C ops i (o :: l) ⟨t, h, nx⟩ none K := by
  subst hi; subst hnm
  obtain ⟨e1, e2⟩ := sopH_eq e
  refine st (σ := ⟨t, h, nx⟩) hg (by unfold dstOK; rw [hdst]) e1 hvc ?_
  unfold St.app; rw [hdst, e2]; exact k

/-- The value written otherwise. -/
theorem s1as (u' : SV) (d nm i' : Nat) (hi : i + 1 = i') (hnm : nx + 8 * i = nm) (hg : o.guard = none) (hdst : o.dst = some d) (hd : Nat.blt d C.sz = true) (e : sopH C nm o (opv C t) h = some (vc, bs, u, wr, h')) (hvc : vc) (hu : u = u')
    (k : wops C ops i' l ⟨upd t d u', h', nx⟩ none K) : wops C ops i (o :: l) ⟨t, h, nx⟩ none K := by
  subst hu; exact s1 d nm i' hi hnm hg hdst hd e hvc k

theorem d1 (d nm i' : Nat) (hi : i + 1 = i') (hnm : nx + 8 * i = nm) (hg : o.guard = none) (hdst : o.dst = some d) (hd : Nat.blt d C.sz = true) (e : sopH C nm o (opv C t) h = some (vc, bs, u, wr, h')) (hvc : vc)
    (k : wops C ops i' l ⟨upd t d u, h', nx⟩ (some (acc ++ [(bs.map (·.1), wr.map (·.1))])) K) : wops C ops i (o :: l) ⟨t, h, nx⟩ (some acc) K := by
  subst hi; subst hnm
  obtain ⟨e1, e2⟩ := sopH_eq e
  refine st (σ := ⟨t, h, nx⟩) hg (by unfold dstOK; rw [hdst]; exact hd) e1 hvc ?_
  unfold St.app; rw [hdst, e2]; exact k

theorem d0 (nm i' : Nat) (hi : i + 1 = i') (hnm : nx + 8 * i = nm) (hg : o.guard = none) (hdst : o.dst = none) (e : sopH C nm o (opv C t) h = some (vc, bs, u, wr, h')) (hvc : vc)
    (k : wops C ops i' l ⟨t, h', nx⟩ (some (acc ++ [(bs.map (·.1), wr.map (·.1))])) K) : wops C ops i (o :: l) ⟨t, h, nx⟩ (some acc) K := by
  subst hi; subst hnm
  obtain ⟨e1, e2⟩ := sopH_eq e
  refine st (σ := ⟨t, h, nx⟩) hg (by unfold dstOK; rw [hdst]) e1 hvc ?_
  unfold St.app; rw [hdst, e2]; exact k

theorem d1as (u' : SV) (d nm i' : Nat) (hi : i + 1 = i') (hnm : nx + 8 * i = nm) (hg : o.guard = none) (hdst : o.dst = some d) (hd : Nat.blt d C.sz = true) (e : sopH C nm o (opv C t) h = some (vc, bs, u, wr, h')) (hvc : vc) (hu : u = u')
    (k : wops C ops i' l ⟨upd t d u', h', nx⟩ (some (acc ++ [(bs.map (·.1), wr.map (·.1))])) K) : wops C ops i (o :: l) ⟨t, h, nx⟩ (some acc) K := by
  subst hu; exact d1 d nm i' hi hnm hg hdst hd e hvc k

/- behind a guard whose slot is known -/
theorem g1 {A : Option (List FP)} (j : Nat) (want : Bool) (s d : Nat) (i' : Nat) (hi : i + 1 = i') (hg : o.guard = some (j, want)) (hs : gslot ops j = some s) (hb : t s = SV.b want) (hd : dstOK C o = true)
    (on : wops C ops i ({ o with guard := none } :: l) ⟨upd t s (SV.b want), h, nx⟩ A K) : wops C ops i (o :: l) ⟨t, h, nx⟩ A K := by
  refine st_guard (σ := ⟨t, h, nx⟩) hg hs hb (fun _ => on) (fun e => ?_) hd
  cases want <;> simp at e

theorem g0 {A : Option (List FP)} (j : Nat) (want : Bool) (s d : Nat) (i' : Nat) (hi : i + 1 = i') (hg : o.guard = some (j, want)) (hs : gslot ops j = some s) (hb : t s = SV.b (!want)) (hdst : o.dst = some d) (hd : Nat.blt d C.sz = true)
    (off : wops C ops i' l ⟨upd t d (.tup []), h, nx⟩ (A.map (· ++ [([], [])])) K) : wops C ops i (o :: l) ⟨t, h, nx⟩ A K := by
  subst hi
  have same : upd t s (SV.b (!want)) = t := by
    funext k; rw [upd_eq]; split
    · next e => subst e; exact hb.symm
    · rfl
  refine st_guard (σ := ⟨t, h, nx⟩) hg hs hb (fun e => ?_) (fun _ => ?_) (by unfold dstOK; rw [hdst]; exact hd)
  · cases want <;> simp at e
  · unfold St.app; rw [same, hdst]; exact off

/-- behind a guard that was itself passed by -/
theorem gz {A : Option (List FP)} (j : Nat) (want : Bool) (s d : Nat) (i' : Nat) (hi : i + 1 = i') (hg : o.guard = some (j, want)) (hs : gslot ops j = some s) (hb : t s = .tup []) (hdst : o.dst = some d) (hd : Nat.blt d C.sz = true)
    (off : wops C ops i' l ⟨upd t d (.tup []), h, nx⟩ (A.map (· ++ [([], [])])) K) : wops C ops i (o :: l) ⟨t, h, nx⟩ A K := by
  subst hi
  unfold wops
  refine .inl ⟨([], []), _, ⟨by unfold dstOK; rw [hdst]; exact hd, .inr ⟨?_, rfl, rfl⟩⟩, ?_⟩
  · unfold gOff; rw [hg]; exact ⟨s, hs, .inr hb⟩
  · unfold St.app; rw [hdst]; exact off

/-- A slot whose truth is asked for: both ways, with the slot known from then on. -/
theorem ask {A : Option (List FP)} (s : Nat) {b : Bool} (hb : (t s).hd = some (SV.b b)) (on : b = true → wops C ops i l ⟨upd t s (SV.b true), h, nx⟩ A K) (off : b = false → wops C ops i l ⟨upd t s (SV.b false), h, nx⟩ A K) : wops C ops i l ⟨t, h, nx⟩ A K := by
  have hb := SV.hd_eq hb
  have same : upd t s (SV.b b) = t := by
    funext k; rw [upd_eq]; split
    · next e => subst e; exact hb.symm
    · rfl
  cases b with
  | true => rw [← same]; exact on rfl
  | false => rw [← same]; exact off rfl

/- calls -/
theorem c1 {f : FuncId} {args : List SV} {hin : List Blk} {r : SV} {hout : List (Option Blk)} (hF : Spec C.P C.G f args hin (fun r' ho => r' = r ∧ ho = hout)) {x : Operand} {cargs : Array Operand} {tys : Array TypeId} {caps : List SV} {fn : Func} {r' : SV}
    (π π2 : List Nat) (d nm i' : Nat) (hi : i + 1 = i') (hnm : nx + 8 * i = nm) (hp : π ++ newNames nm (hout.length - hin.length) = π2) (hg : o.guard = none) (hdst : o.dst = some d) (hd : Nat.blt d C.sz = true) (ho : o.op = .call { callee := .value x, args := cargs, argTypes := tys }) (hx : opv C t x = .fn f caps) (hf : C.P.funcs[f]? = some fn) (hfn : fnOK fn = true)
    (hargs : mapV (opv C t) cargs.toList ++ caps = renL π args) (side : (Nat.beq π.length hin.length && (nodupB π && (hUnder hin.length (hin.map some) && underL hin.length args))) = true)
    (side2 : (Nat.ble hin.length hout.length && Nat.ble hout.length (hin.length + 8)) = true) (hbs : bsHeap h (bsOf π π hin)) (hr : (ren π2 r).hd = some r') (hw : wrHO h (wrOf π2 π2 hout) = some h')
    (k : wops C ops i' l ⟨upd t d r', h', nx⟩ none K) : wops C ops i (o :: l) ⟨t, h, nx⟩ none K := by
  subst hi; subst hnm; subst hp
  refine st_call (σ := ⟨t, h, nx⟩) π hF hg (by unfold dstOK; rw [hdst]; exact hd) ho hx hf hfn hargs side side2 hbs ?_
  unfold St.app; rw [hdst, SV.hd_eq hr, wrHO_eq hw]; exact k

theorem c0 {f : FuncId} {args : List SV} {hin : List Blk} {r : SV} {hout : List (Option Blk)} (hF : Spec C.P C.G f args hin (fun r' ho => r' = r ∧ ho = hout)) {x : Operand} {cargs : Array Operand} {tys : Array TypeId} {caps : List SV} {fn : Func}
    (π π2 : List Nat) (nm i' : Nat) (hi : i + 1 = i') (hnm : nx + 8 * i = nm) (hp : π ++ newNames nm (hout.length - hin.length) = π2) (hg : o.guard = none) (hdst : o.dst = none) (ho : o.op = .call { callee := .value x, args := cargs, argTypes := tys }) (hx : opv C t x = .fn f caps) (hf : C.P.funcs[f]? = some fn) (hfn : fnOK fn = true)
    (hargs : mapV (opv C t) cargs.toList ++ caps = renL π args) (side : (Nat.beq π.length hin.length && (nodupB π && (hUnder hin.length (hin.map some) && underL hin.length args))) = true)
    (side2 : (Nat.ble hin.length hout.length && Nat.ble hout.length (hin.length + 8)) = true) (hbs : bsHeap h (bsOf π π hin)) (hw : wrHO h (wrOf π2 π2 hout) = some h')
    (k : wops C ops i' l ⟨t, h', nx⟩ none K) : wops C ops i (o :: l) ⟨t, h, nx⟩ none K := by
  subst hi; subst hnm; subst hp
  refine st_call (σ := ⟨t, h, nx⟩) π hF hg (by unfold dstOK; rw [hdst]) ho hx hf hfn hargs side side2 hbs ?_
  unfold St.app; rw [hdst, wrHO_eq hw]; exact k

theorem dc1 {f : FuncId} {args : List SV} {hin : List Blk} {r : SV} {hout : List (Option Blk)} (hF : Spec C.P C.G f args hin (fun r' ho => r' = r ∧ ho = hout)) {x : Operand} {cargs : Array Operand} {tys : Array TypeId} {caps : List SV} {fn : Func} {r' : SV}
    (π π2 : List Nat) (d nm i' : Nat) (hi : i + 1 = i') (hnm : nx + 8 * i = nm) (hp : π ++ newNames nm (hout.length - hin.length) = π2) (hg : o.guard = none) (hdst : o.dst = some d) (hd : Nat.blt d C.sz = true) (ho : o.op = .call { callee := .value x, args := cargs, argTypes := tys }) (hx : opv C t x = .fn f caps) (hf : C.P.funcs[f]? = some fn) (hfn : fnOK fn = true)
    (hargs : mapV (opv C t) cargs.toList ++ caps = renL π args) (side : (Nat.beq π.length hin.length && (nodupB π && (hUnder hin.length (hin.map some) && underL hin.length args))) = true)
    (side2 : (Nat.ble hin.length hout.length && Nat.ble hout.length (hin.length + 8)) = true) (hbs : bsHeap h (bsOf π π hin)) (hr : (ren π2 r).hd = some r') (hw : wrHO h (wrOf π2 π2 hout) = some h')
    (k : wops C ops i' l ⟨upd t d r', h', nx⟩ (some (acc ++ [((bsOf π π hin).map (·.1), (wrOf π2 π2 hout).map (·.1))])) K) : wops C ops i (o :: l) ⟨t, h, nx⟩ (some acc) K := by
  subst hi; subst hnm; subst hp
  refine st_call (σ := ⟨t, h, nx⟩) π hF hg (by unfold dstOK; rw [hdst]; exact hd) ho hx hf hfn hargs side side2 hbs ?_
  unfold St.app; rw [hdst, SV.hd_eq hr, wrHO_eq hw]; exact k

/- comparisons of structs -/
theorem sEq {op : BinOp} {ty ty' : TypeId} {y z : Operand} {xs ys : List SV} {fs : Array Field} {b r : Bool} (d nm i' : Nat) (hi : i + 1 = i') (hnm : nx + 8 * i = nm) (hg : o.guard = none) (hdst : o.dst = some d) (hd : Nat.blt d C.sz = true) (ho : o.op = .binOp op ty y z ty')
    (hy : opv C t y = .agg xs) (hz : opv C t z = .agg ys) (hfs : C.P.underlying ty = some (.struct fs)) (hp : C.P.stoodInHeld ty = false) (hm : C.P.eqGuardType C.P.depth ty = false) (hb : eqSV C.P xs ys fs.toList = some b) (hop : (op = .eql ∧ r = b) ∨ (op = .neq ∧ r = !b))
    (k : wops C ops i' l ⟨upd t d (SV.b r), h, nx⟩ none K) : wops C ops i (o :: l) ⟨t, h, nx⟩ none K := by
  subst hi; subst hnm
  refine st_ok (σ := ⟨t, h, nx⟩) hg (by unfold dstOK; rw [hdst]; exact hd) (structEq_okC ho hy hz hfs hp hm hb hop) (fun p hp => by cases hp) rfl ?_
  unfold St.app; rw [hdst]; exact k

theorem dEq {op : BinOp} {ty ty' : TypeId} {y z : Operand} {xs ys : List SV} {fs : Array Field} {b r : Bool} (d nm i' : Nat) (hi : i + 1 = i') (hnm : nx + 8 * i = nm) (hg : o.guard = none) (hdst : o.dst = some d) (hd : Nat.blt d C.sz = true) (ho : o.op = .binOp op ty y z ty')
    (hy : opv C t y = .agg xs) (hz : opv C t z = .agg ys) (hfs : C.P.underlying ty = some (.struct fs)) (hp : C.P.stoodInHeld ty = false) (hm : C.P.eqGuardType C.P.depth ty = false) (hb : eqSV C.P xs ys fs.toList = some b) (hop : (op = .eql ∧ r = b) ∨ (op = .neq ∧ r = !b))
    (k : wops C ops i' l ⟨upd t d (SV.b r), h, nx⟩ (some (acc ++ [([], [])])) K) : wops C ops i (o :: l) ⟨t, h, nx⟩ (some acc) K := by
  subst hi; subst hnm
  refine st_ok (σ := ⟨t, h, nx⟩) hg (by unfold dstOK; rw [hdst]; exact hd) (structEq_okC ho hy hz hfs hp hm hb hop) (fun p hp => by cases hp) rfl ?_
  unfold St.app; rw [hdst]; exact k
end
section
variable {C : Ctx} {ops : List Oper} {i : Nat} {o : Oper} {l : List Oper} {t : Nat → SV} {h h' : Heap} {nx : Nat} {K : St → Prop} {acc : List FP}
/- ends of regions -/
theorem e1 (nx' : Nat) (hn : nx + 8 * ops.length = nx') (k : K ⟨t, h, nx'⟩) : wops C ops i [] ⟨t, h, nx⟩ none K := by subst hn; exact ⟨trivial, k⟩

theorem de1 (nx' : Nat) (hn : nx + 8 * ops.length = nx') (hc : fpOK ops acc = true) (k : K ⟨t, h, nx'⟩) : wops C ops i [] ⟨t, h, nx⟩ (some acc) K := by subst hn; exact ⟨hc, k⟩
end
section
variable {C : Ctx} {Q : Exit → St → Prop} {σ : St}
theorem r1 {id : Nat} {ops : Array Oper} {y : Code} (k : wops C ops.toList 0 ops.toList σ none (fun σ' => W C y Q σ')) : W C (.seq (.region id ops false) y) Q σ := W_seq (W_region k)

theorem r0 {id : Nat} {ops : Array Oper} (k : wops C ops.toList 0 ops.toList σ none (fun σ' => Q .normal σ')) : W C (.region id ops false) Q σ := W_region k

theorem rd1 {id : Nat} {ops : Array Oper} {y : Code} (hm : C.P.follows .mixedOrders = true) (k : wops C ops.toList 0 ops.toList σ (some []) (fun σ' => W C y Q σ')) : W C (.seq (.region id ops true) y) Q σ := W_seq (W_region_draw hm k)

theorem rd0 {id : Nat} {ops : Array Oper} (hm : C.P.follows .mixedOrders = true) (k : wops C ops.toList 0 ops.toList σ (some []) (fun σ' => Q .normal σ')) : W C (.region id ops true) Q σ := W_region_draw hm k

theorem q1 {t : Nat → SV} {h : Heap} {nx : Nat} {c : Operand} {x y : Code} {b : Bool} (hc : (opv C t c).hd = some (SV.b b)) (ht : b = true → W C x Q ⟨t, h, nx⟩) (hf : b = false → W C y Q ⟨t, h, nx⟩) : W C (.cond c x y) Q ⟨t, h, nx⟩ :=
  W_cond (σ := ⟨t, h, nx⟩) (SV.hd_eq hc) ht hf

theorem keep {t : Nat → SV} {h : Heap} {nx : Nat} {c : Code} (ks : List Nat) {l : List (Nat × SV)} (e : keepO t ks = some l) (k : W C c Q ⟨tOf l, h, nx⟩) : W C c Q ⟨t, h, nx⟩ := by
  refine W_turn (fun M F pin ρ a w hs => ?_) k
  refine ⟨M, ρ, Imm.le_refl _, ⟨⟨fun n => ?_, hs.sz, hs.df, hs.hr, hs.pn, hs.pm, hs.gl⟩, hs.fr⟩⟩
  rcases keepO_sub e n with h | h
  · show VR M ρ (tOf l n) _; rw [h]; exact .any _
  · show VR M ρ (tOf l n) _; rw [h]; exact hs.tm n

/-- The start of a walk. -/
theorem start {P : Program} {G : Nat → SV} {f : FuncId} {fn : Func} {c : Code} {args : List SV} {hin : List Blk} {post : SV → List (Option Blk) → Prop} (sz m : Nat) (hf : P.funcs[f]? = some fn) (hb : fn.body = some c) (hsz : fn.ntmps = sz) (hm : hin.length = m)
    (hn : Nat.ble args.length sz = true) (h : W ⟨P, sz, m, G⟩ c (outQ ⟨P, sz, m, G⟩ fn post) ⟨tOf (argT 0 args), hOf (hin.map some), m⟩) : Spec P G f args hin post := by
  subst hsz; subst hm
  refine fn_intro hf hb hn ?_
  unfold stOf
  rw [List.length_map]
  exact h
end
theorem arith_okC {C : Ctx} {o : Oper} {nm : Nat} {v : Operand → SV} {op : BinOp} {ty ty' : TypeId} {y z : Operand} {a b r : Int} (ho : o.op = .binOp op ty y z ty') (hy : (v y).hd = some (SV.i a)) (hz : (v z).hd = some (SV.i b)) (hr : arith op a b = some r) (hin : inRange r) :
    OpOK C o nm v [] (fun x w => x = SV.i r ∧ w = []) := .of (arith_ok ho hy hz hr hin) (OpVal.plain (by rw [ho]; rfl)) (bin_ev ho (SV.hd_eq hy) (SV.hd_eq hz))
theorem divPos_okC {C : Ctx} {o : Oper} {nm : Nat} {v : Operand → SV} {op : BinOp} {ty ty' : TypeId} {y z : Operand} {a b r : Int} (ho : o.op = .binOp op ty y z ty') (hy : (v y).hd = some (SV.i a)) (hz : (v z).hd = some (SV.i b)) (hr : divPos op a b = some r) (hin : 0 ≤ a ∧ a ≤ 9223372036854775807 ∧ 0 < b) :
    OpOK C o nm v [] (fun x w => x = SV.i r ∧ w = []) := .of (divPos_ok ho hy hz hr hin) (OpVal.plain (by rw [ho]; rfl)) (bin_ev ho (SV.hd_eq hy) (SV.hd_eq hz))
section
variable {C : Ctx} {ops : List Oper} {i : Nat} {o : Oper} {l : List Oper} {t : Nat → SV} {h h' : Heap} {nx : Nat} {K : St → Prop} {acc : List FP}
theorem sA {op : BinOp} {ty ty' : TypeId} {y z : Operand} {a b r : Int} (d nm i' : Nat) (hi : i + 1 = i') (hnm : nx + 8 * i = nm) (hg : o.guard = none) (hdst : o.dst = some d) (hd : Nat.blt d C.sz = true) (ho : o.op = .binOp op ty y z ty')
    (hy : (opv C t y).hd = some (SV.i a)) (hz : (opv C t z).hd = some (SV.i b)) (hr : arith op a b = some r) (hin : inRange r) (k : wops C ops i' l ⟨upd t d (SV.i r), h, nx⟩ none K) : wops C ops i (o :: l) ⟨t, h, nx⟩ none K := by
  subst hi; subst hnm
  refine st_ok (σ := ⟨t, h, nx⟩) hg (by unfold dstOK; rw [hdst]; exact hd) (arith_okC ho hy hz hr hin) (fun p hp => by cases hp) rfl ?_
  unfold St.app; rw [hdst]; exact k

theorem dA {op : BinOp} {ty ty' : TypeId} {y z : Operand} {a b r : Int} (d nm i' : Nat) (hi : i + 1 = i') (hnm : nx + 8 * i = nm) (hg : o.guard = none) (hdst : o.dst = some d) (hd : Nat.blt d C.sz = true) (ho : o.op = .binOp op ty y z ty')
    (hy : (opv C t y).hd = some (SV.i a)) (hz : (opv C t z).hd = some (SV.i b)) (hr : arith op a b = some r) (hin : inRange r) (k : wops C ops i' l ⟨upd t d (SV.i r), h, nx⟩ (some (acc ++ [([], [])])) K) : wops C ops i (o :: l) ⟨t, h, nx⟩ (some acc) K := by
  subst hi; subst hnm
  refine st_ok (σ := ⟨t, h, nx⟩) hg (by unfold dstOK; rw [hdst]; exact hd) (arith_okC ho hy hz hr hin) (fun p hp => by cases hp) rfl ?_
  unfold St.app; rw [hdst]; exact k

theorem sD {op : BinOp} {ty ty' : TypeId} {y z : Operand} {a b r : Int} (d nm i' : Nat) (hi : i + 1 = i') (hnm : nx + 8 * i = nm) (hg : o.guard = none) (hdst : o.dst = some d) (hd : Nat.blt d C.sz = true) (ho : o.op = .binOp op ty y z ty')
    (hy : (opv C t y).hd = some (SV.i a)) (hz : (opv C t z).hd = some (SV.i b)) (hr : divPos op a b = some r) (hin : 0 ≤ a ∧ a ≤ 9223372036854775807 ∧ 0 < b) (k : wops C ops i' l ⟨upd t d (SV.i r), h, nx⟩ none K) : wops C ops i (o :: l) ⟨t, h, nx⟩ none K := by
  subst hi; subst hnm
  refine st_ok (σ := ⟨t, h, nx⟩) hg (by unfold dstOK; rw [hdst]; exact hd) (divPos_okC ho hy hz hr hin) (fun p hp => by cases hp) rfl ?_
  unfold St.app; rw [hdst]; exact k

theorem dD {op : BinOp} {ty ty' : TypeId} {y z : Operand} {a b r : Int} (d nm i' : Nat) (hi : i + 1 = i') (hnm : nx + 8 * i = nm) (hg : o.guard = none) (hdst : o.dst = some d) (hd : Nat.blt d C.sz = true) (ho : o.op = .binOp op ty y z ty')
    (hy : (opv C t y).hd = some (SV.i a)) (hz : (opv C t z).hd = some (SV.i b)) (hr : divPos op a b = some r) (hin : 0 ≤ a ∧ a ≤ 9223372036854775807 ∧ 0 < b) (k : wops C ops i' l ⟨upd t d (SV.i r), h, nx⟩ (some (acc ++ [([], [])])) K) : wops C ops i (o :: l) ⟨t, h, nx⟩ (some acc) K := by
  subst hi; subst hnm
  refine st_ok (σ := ⟨t, h, nx⟩) hg (by unfold dstOK; rw [hdst]; exact hd) (divPos_okC ho hy hz hr hin) (fun p hp => by cases hp) rfl ?_
  unfold St.app; rw [hdst]; exact k

/-- A slot's value written otherwise. -/
theorem val {A : Option (List FP)} (s : Nat) (u : SV) {u0 : SV} (hs : (t s).hd = some u0) (hu : u0 = u) (k : wops C ops i l ⟨upd t s u, h, nx⟩ A K) : wops C ops i l ⟨t, h, nx⟩ A K := by
  have same : upd t s u = t := by
    funext n; rw [upd_eq]; split
    · next e => subst e; rw [SV.hd_eq hs, hu]
    · rfl
  rw [← same]; exact k

/-- A block's contents written otherwise. -/
theorem hval {A : Option (List FP)} (n : Nat) (b : Blk) (hs : h n = some b) (b' : Blk) (hb : b = b') (k : wops C ops i l ⟨t, upd h n (some b'), nx⟩ A K) : wops C ops i l ⟨t, h, nx⟩ A K := by
  have same : upd h n (some b') = h := by
    funext m; rw [upd_eq]; split
    · next e => subst e; rw [hs, hb]
    · rfl
  rw [← same]; exact k
end
section
variable {C : Ctx} {Q : Exit → St → Prop} {σ : St}
theorem loop {c : Code} {t : Nat → SV} {h : Heap} {nx : Nat} {α : Type} (m : Nat) (tl : α → List (Nat × SV)) (hl : α → List (Option Blk)) (I : α → Prop) (μ : α → Nat) (x0 : α) (π : List Nat) (hm : ∀ x, (hl x).length = m)
    (h0 : I x0) (hok : (Nat.beq π.length (hl x0).length && (nodupB π && (pinOk C.m π && (tUnder (hl x0).length (tl x0) && hUnder (hl x0).length (hl x0))))) = true) (ht : tSub π t (tl x0)) (hh : hSub π π h (hl x0))
    (round : ∀ x, I x → W C c (thenQ (fun σ' => ∃ x' π, I x' ∧ μ x' < μ x ∧ Sub C π σ' (tl x') (hl x')) Q) ⟨tOf (tl x), hOf (hl x), m⟩) : W C (.loop c) Q ⟨t, h, nx⟩ := by
  refine W_loop tl hl I μ x0 π h0 ⟨hok, ht, hh⟩ fun x hx => ?_
  have := round x hx
  rw [← hm x] at this
  exact this

theorem cut {x y : Code} {α : Type} (m : Nat) (tl : α → List (Nat × SV)) (hl : α → List (Option Blk)) (I : α → Prop) (hm : ∀ z, (hl z).length = m)
    (hx : W C x (thenQ (fun σ' => ∃ z π, I z ∧ Sub C π σ' (tl z) (hl z)) Q) σ) (hy : ∀ z, I z → W C y Q ⟨tOf (tl z), hOf (hl z), m⟩) : W C (.seq x y) Q σ := by
  refine W_cut tl hl I hx fun z hz => ?_
  have := hy z hz
  rw [← hm z] at this
  exact this

/-- The state told anew, at any place. -/
theorem tell {c : Code} {t : Nat → SV} {h : Heap} {nx : Nat} (m : Nat) (tl : List (Nat × SV)) (hl : List (Option Blk)) (π : List Nat) (hm : hl.length = m)
    (hok : (Nat.beq π.length hl.length && (nodupB π && (pinOk C.m π && (tUnder hl.length tl && hUnder hl.length hl)))) = true) (ht : tSub π t tl) (hh : hSub π π h hl) (k : W C c Q ⟨tOf tl, hOf hl, m⟩) : W C c Q ⟨t, h, nx⟩ := by
  refine W_sub π tl hl ⟨hok, ht, hh⟩ ?_
  rw [← hm] at k
  exact k

/-- A slice without memory gets a name. -/
theorem ghostly {c : Code} {t : Nat → SV} {h : Heap} {nx : Nat} (s ty k : Nat) (f : Nat → Nat → D) (hs : (t s).hd = some (.d .nils)) (kk : W C c Q ⟨upd t s (.sl nx 0 0), upd h nx (some (.rows ty k 0 f)), nx + 8⟩) : W C c Q ⟨t, h, nx⟩ := by
  refine W_turn (fun M F pin ρ a w hsr => ?_) kk
  have hv := hsr.tm s
  rw [show (⟨t, h, nx⟩ : St).t s = .d .nils from SV.hd_eq hs] at hv
  have hfr : ∀ n, nx ≤ n → n < nx + 8 → ρ n = none := fun n h1 _ => hsr.fr n h1
  obtain ⟨ρ', k1, k2, k3, k4⟩ := hsr.hr.ghost hfr ty k f
  refine ⟨M, ρ', Imm.le_refl _, ⟨⟨fun n => ?_, hsr.sz, hsr.df, k4, Names.le_trans hsr.pn k1, hsr.pm, hsr.gl⟩, fun n hn => ?_⟩⟩
  · show VR M ρ' (upd t s _ n) _
    rw [upd_eq]
    split
    · next e =>
      subst e
      generalize hq : a.tmps.getD n undef = q at hv
      cases hv with | d _ _ hd => cases hd with | nils aa => exact .sl0 nx 0 _ k3 rfl aa
    · exact (hsr.tm n).mono (Imm.le_refl _) k1
  · have hn' : nx + 8 ≤ n := hn
    rw [k2 n (.inr hn')]; exact hsr.fr n (by show nx ≤ n; omega)

theorem freeze {c : Code} {t : Nat → SV} {h : Heap} {nx : Nat} (s n len : Nat) {ty k L : Nat} {f : Nat → Nat → D} (hs : (t s).hd = some (.sl n 0 len)) (hn : h n = some (.rows ty k L f)) (hl : len ≤ L)
    (kk : W C c Q ⟨upd t s (.d (.vec k len f)), upd h n none, nx⟩) : W C c Q ⟨t, h, nx⟩ :=
  W_freeze (σ := ⟨t, h, nx⟩) s n len (SV.hd_eq hs) hn hl kk

/-- A slot's value written otherwise, between pieces of code. -/
theorem cval {c : Code} {t : Nat → SV} {h : Heap} {nx : Nat} (s : Nat) (u : SV) {u0 : SV} (hs : (t s).hd = some u0) (hu : u0 = u) (k : W C c Q ⟨upd t s u, h, nx⟩) : W C c Q ⟨t, h, nx⟩ := by
  have same : upd t s u = t := by
    funext n; rw [upd_eq]; split
    · next e => subst e; rw [SV.hd_eq hs, hu]
    · rfl
  rw [← same]; exact k

theorem chval {c : Code} {t : Nat → SV} {h : Heap} {nx : Nat} (n : Nat) (b' : Blk) {b : Blk} (hs : h n = some b) (hb : b = b') (k : W C c Q ⟨t, upd h n (some b'), nx⟩) : W C c Q ⟨t, h, nx⟩ := by
  have same : upd h n (some b') = h := by
    funext m; rw [upd_eq]; split
    · next e => subst e; rw [hs, hb]
    · rfl
  rw [← same]; exact k
end
section
variable {C : Ctx} {fn : Func} {post : SV → List (Option Blk) → Prop} {t : Nat → SV} {h : Heap} {nx : Nat}
theorem out0 {π : List Nat} {hout : List (Option Blk)} (hres : fn.results = #[]) (hok : okOut C.m (.tup []) hout = true) (hS : (Nat.beq π.length hout.length && (nodupB π && (pinOk C.m π && (tUnder hout.length [] && hUnder hout.length hout)))) = true)
    (hh : hSub π π h hout) (hp : post (.tup []) hout) : outQ C fn post .ret ⟨t, h, nx⟩ :=
  ⟨π, _, .tup [], hout, RetIs.of (ret0 hres) (fun tmps w => by simp [results, hres]), rfl, hok, ⟨hS, trivial, hh⟩, hp⟩

theorem out1 (s : Nat) {π : List Nat} (r : SV) {hout : List (Option Blk)} {u : SV} (hres : fn.results = #[.tmp s]) (hu : (t s).hd = some u) (hr : u = ren π r) (hok : okOut C.m r hout = true) (hS : (Nat.beq π.length hout.length && (nodupB π && (pinOk C.m π && (tUnder hout.length [] && hUnder hout.length hout)))) = true)
    (hh : hSub π π h hout) (hp : post r hout) : outQ C fn post .ret ⟨t, h, nx⟩ :=
  ⟨π, t s, r, hout, RetIs.of (ret1 hres) (fun tmps w => by simp [results, hres]), by rw [SV.hd_eq hu, hr], hok, ⟨hS, trivial, hh⟩, hp⟩

theorem out2 (s1 s2 : Nat) {π : List Nat} (r1 r2 : SV) {hout : List (Option Blk)} {u1 u2 : SV} (hres : fn.results = #[.tmp s1, .tmp s2]) (hu1 : (t s1).hd = some u1) (hu2 : (t s2).hd = some u2) (hr1 : u1 = ren π r1) (hr2 : u2 = ren π r2) (hok : okOut C.m (.tup [r1, r2]) hout = true)
    (hS : (Nat.beq π.length hout.length && (nodupB π && (pinOk C.m π && (tUnder hout.length [] && hUnder hout.length hout)))) = true) (hh : hSub π π h hout) (hp : post (.tup [r1, r2]) hout) : outQ C fn post .ret ⟨t, h, nx⟩ :=
  ⟨π, .tup [t s1, t s2], .tup [r1, r2], hout, RetIs.of (ret2 hres) (fun tmps w => by simp [results, hres]), by rw [SV.hd_eq hu1, SV.hd_eq hu2, hr1, hr2]; rfl, hok, ⟨hS, trivial, hh⟩, hp⟩

theorem out3 (s1 s2 s3 : Nat) {π : List Nat} (r1 r2 r3 : SV) {hout : List (Option Blk)} {u1 u2 u3 : SV} (hres : fn.results = #[.tmp s1, .tmp s2, .tmp s3]) (hu1 : (t s1).hd = some u1) (hu2 : (t s2).hd = some u2) (hu3 : (t s3).hd = some u3) (hr1 : u1 = ren π r1) (hr2 : u2 = ren π r2) (hr3 : u3 = ren π r3) (hok : okOut C.m (.tup [r1, r2, r3]) hout = true)
    (hS : (Nat.beq π.length hout.length && (nodupB π && (pinOk C.m π && (tUnder hout.length [] && hUnder hout.length hout)))) = true) (hh : hSub π π h hout) (hp : post (.tup [r1, r2, r3]) hout) : outQ C fn post .ret ⟨t, h, nx⟩ :=
  ⟨π, .tup [t s1, t s2, t s3], .tup [r1, r2, r3], hout, RetIs.of (ret3 hres) (fun tmps w => by simp [results, hres]), by rw [SV.hd_eq hu1, SV.hd_eq hu2, SV.hd_eq hu3, hr1, hr2, hr3]; rfl, hok, ⟨hS, trivial, hh⟩, hp⟩

end
/- ways through a short circuit meet -/
theorem W_le {C : Ctx} {c : Code} {Q : Exit → St → Prop} {t t' : Nat → SV} {h : Heap} {nx : Nat} (ht : ∀ k, t k = .any ∨ t k = t' k) (hw : W C c Q ⟨t, h, nx⟩) : W C c Q ⟨t', h, nx⟩ := by
  refine W_turn (fun M F pin ρ a w hs => ?_) hw
  refine ⟨M, ρ, Imm.le_refl _, ⟨⟨fun n => ?_, hs.sz, hs.df, hs.hr, hs.pn, hs.pm, hs.gl⟩, hs.fr⟩⟩
  rcases ht n with e | e
  · show VR M ρ (t n) _; rw [e]; exact .any _
  · show VR M ρ (t n) _; rw [e]; exact hs.tm n

theorem OpOK_le {C : Ctx} {o : Oper} {nm : Nat} {t t' : Nat → SV} {bs : List (Nat × Blk)} {RS : SV → List (Nat × Option Blk) → Prop} (ht : ∀ k, t k = .any ∨ t k = t' k) (h : OpOK C o nm (opv C t) bs RS) : OpOK C o nm (opv C t') bs RS := by
  intro K A F M ρ a hp w hf hv
  refine h K A F M ρ a hp w hf fun x hx => ?_
  rcases opv_le (C := C) ht x with e | e
  · rw [e]; exact .any _
  · rw [e]; exact hv x hx

theorem wops_le {C : Ctx} {ops : List Oper} {y : Code} {Q : Exit → St → Prop} : ∀ (l : List Oper) (i : Nat) (σ : St) (t' : Nat → SV) (acc : Option (List FP)), (∀ k, σ.t k = .any ∨ σ.t k = t' k) →
    wops C ops i l σ acc (fun σ => W C y Q σ) → wops C ops i l ⟨t', σ.h, σ.nx⟩ acc (fun σ => W C y Q σ) := by
  intro l
  induction l with
  | nil =>
    intro i σ t' acc ht h
    obtain ⟨h1, h2⟩ := h
    exact ⟨h1, W_le ht h2⟩
  | cons o l ih =>
    intro i σ t' acc ht h
    have happ : ∀ (d : Option Tmp) (u : SV) (wr : List (Nat × Option Blk)) (k : Nat), (σ.app d u wr).t k = .any ∨ (σ.app d u wr).t k = (St.app ⟨t', σ.h, σ.nx⟩ d u wr).t k := by
      intro d u wr k
      cases d with
      | none => exact ht k
      | some d =>
        show upd σ.t d u k = .any ∨ upd σ.t d u k = upd t' d u k
        rw [upd_eq, upd_eq]
        split
        · exact .inr rfl
        · exact ht k
    have gon : gOn ops σ.t o → gOn ops t' o := by
      intro hg
      unfold gOn at *
      cases e : o.guard with
      | none => trivial
      | some p =>
        obtain ⟨j, want⟩ := p
        rw [e] at hg
        obtain ⟨s, s1, s2⟩ := hg
        refine ⟨s, s1, ?_⟩
        rcases ht s with h | h
        · rw [h] at s2; cases s2
        · rw [← h]; exact s2
    have goff : gOff ops σ.t o → gOff ops t' o := by
      intro hg
      unfold gOff at *
      cases e : o.guard with
      | none => rw [e] at hg; exact hg
      | some p =>
        obtain ⟨j, want⟩ := p
        rw [e] at hg
        obtain ⟨s, s1, s2⟩ := hg
        refine ⟨s, s1, ?_⟩
        rcases ht s with h | h
        · rw [h] at s2; rcases s2 with s2 | s2 <;> cases s2
        · rw [← h]; exact s2
    unfold wops at h ⊢
    rcases h with ⟨fp, σ', ⟨hd, hD⟩, hr⟩ | ⟨h0, hd, hg, bs, RS, hok, hbs, hn⟩
    · refine .inl ⟨fp, ?_⟩
      rcases hD with ⟨hg, bs, u, wr, hok, hbs, hk, rfl, rfl⟩ | ⟨hg, rfl, rfl⟩
      · exact ⟨_, ⟨hd, .inl ⟨gon hg, bs, u, wr, OpOK_le ht hok, hbs, hk, rfl, rfl⟩⟩, ih (i + 1) (σ.app o.dst u wr) _ _ (happ o.dst u wr) hr⟩
      · exact ⟨_, ⟨hd, .inr ⟨goff hg, rfl, rfl⟩⟩, ih (i + 1) (σ.app o.dst (.tup []) []) _ _ (happ o.dst (.tup []) []) hr⟩
    · exact .inr ⟨h0, hd, gon hg, bs, RS, OpOK_le ht hok, hbs, fun u wr hR => ih (i + 1) (σ.app o.dst u wr) _ _ (happ o.dst u wr) (hn u wr hR)⟩

theorem joinB {C : Ctx} {ops l l' : List Oper} {i : Nat} {t : Nat → SV} {h : Heap} {nx : Nat} {y : Code} {Q : Exit → St → Prop} (n i' d : Nat) (e : Bool) (ks ka : List Nat) {lk la : List (Nat × SV)} (hk : keepO t ks = some lk) (ha : keepO t ka = some la) (hi : i + n = i') (hl : l.drop n = l')
    (J : wops C ops i' l' ⟨upd (tOf la) d (SV.b e), h, nx⟩ none (fun σ => W C y Q σ)) (k : wops C ops i' l' ⟨upd (tOf la) d (SV.b e), h, nx⟩ none (fun σ => W C y Q σ) → wops C ops i l ⟨tOf lk, h, nx⟩ none (fun σ => W C y Q σ)) :
    wops C ops i l ⟨t, h, nx⟩ none (fun σ => W C y Q σ) := wops_le _ _ ⟨tOf lk, h, nx⟩ t none (fun n => keepO_sub hk n) (k J)

theorem joinEnd {C : Ctx} {ops l' : List Oper} {i' : Nat} {t' : Nat → SV} {h : Heap} {nx d : Nat} {e x : Bool} {lk : List (Nat × SV)} {y : Code} {Q : Exit → St → Prop} (J : wops C ops i' l' ⟨upd (tOf lk) d (SV.b e), h, nx⟩ none (fun σ => W C y Q σ))
    (hd : (t' d).hd = some (SV.b x)) (hx : x = e) (hs : tEq t' lk) : wops C ops i' l' ⟨t', h, nx⟩ none (fun σ => W C y Q σ) := by
  refine wops_le _ _ _ t' none (fun k => ?_) J
  show upd (tOf lk) d (SV.b e) k = .any ∨ upd (tOf lk) d (SV.b e) k = t' k
  rw [upd_eq]
  split
  · next hk => subst hk; rw [← hx]; exact .inr (SV.hd_eq hd).symm
  · exact tEq_get hs k


theorem resS_ev {C : Ctx} {t : Nat → SV} {h : Heap} {nx : Nat} : ∀ {l : List ResultVar} {vc : Prop} {ys : List SV}, resS C.P t h l = some (vc, ys) → vc → ∀ M F pin ρ a w, SR C M F pin ρ ⟨t, h, nx⟩ a w → At C.P (fun b => M b ≠ none ∨ OwnB ρ h b) (fun b => OwnB ρ h b) (l.mapM (readR a.tmps)) w
  | [], vc, ys, e, hvc, M, F, pin, ρ, a, w, hs => by rw [List.mapM_nil]; exact (Still.pure _).at
  | .tmp s :: r, vc, ys, e, hvc, M, F, pin, ρ, a, w, hs => by
    unfold resS at e
    split at e
    · next vc' ys' hr =>
      cases e
      rw [List.mapM_cons]
      refine .bind (Still.pure _).at fun v w' hv => ?_
      cases hv
      exact .bind (resS_ev hr hvc M F pin ρ a w hs) fun _ _ _ => (Still.pure _).at
    · cases e
  | .cell s ty :: r, vc, ys, e, hvc, M, F, pin, ρ, a, w, hs => by
    unfold resS at e
    split at e
    · next vc' bs u vc'' ys' hl hr =>
      cases e
      obtain ⟨k1, k2⟩ := loadS_ok hl hvc.1
      obtain ⟨v, _, ⟨ad, had, hload⟩, hv⟩ := k2 M F ρ h w (a.tmps.getD s undef) (hs.tm s) hs.hr k1
      obtain ⟨ad', had', g2, g3⟩ := loadS_addr hl hvc.1 (hs.tm s) hs.hr k1
      rw [had] at had'; cases had'
      have hrun : (readR a.tmps (.cell s ty)).run C.P w = .ok v w := by simp [readR, had, asAddr, hload]
      rw [List.mapM_cons]
      refine .bind ?_ fun x w' hx => ?_
      · unfold readR
        simp only [had, asAddr]
        refine .bind (Still.pure _).at fun q w' hq => ?_
        cases hq
        exact at_loadVar g2 g3
      · rw [hrun] at hx; cases hx
        exact .bind (resS_ev hr hvc.2 M F pin ρ a w hs) fun _ _ _ => (Still.pure _).at
    · cases e
theorem retN {C : Ctx} {fn : Func} {t : Nat → SV} {h : Heap} {nx : Nat} {rs : Array ResultVar} {vc : Prop} {ys : List SV} (hres : fn.results = rs) (e : resS C.P t h rs.toList = some (vc, ys)) (hvc : vc) : RetIs C fn ⟨t, h, nx⟩ (oneOf ys) := by
  intro M F pin ρ a w hs
  refine ⟨Nice.retN hres e hvc M F pin ρ a w hs, fun ev hev => ?_⟩
  rw [results_eq, hres] at hev
  have hat : At C.P (fun b => M b ≠ none ∨ OwnB ρ h b) (fun b => OwnB ρ h b) (do let vs ← rs.mapM (readR a.tmps); pure (if h : vs.size = 1 then vs[0] else .tuple vs)) w := by
    refine .bind ?_ fun _ _ _ => (Still.pure _).at
    rw [Array.mapM_eq_mapM_toList]
    intro es e' he
    rw [Sem.events_map] at he
    exact resS_ev e hvc M F pin ρ a w hs es e' he
  rcases hat #[] ev hev with h | h
  · simp at h
  · exact h
section
variable {C : Ctx} {fn : Func} {post : SV → List (Option Blk) → Prop} {t : Nat → SV} {h : Heap} {nx : Nat}
/-- Answers of any kind. -/
theorem outN {rs : Array ResultVar} {π : List Nat} (r : SV) {hout : List (Option Blk)} {vc : Prop} {ys : List SV} (hres : fn.results = rs) (e : resS C.P t h rs.toList = some (vc, ys)) (hvc : vc) (hr : oneOf ys = ren π r) (hok : okOut C.m r hout = true) (hS : (Nat.beq π.length hout.length && (nodupB π && (pinOk C.m π && (tUnder hout.length [] && hUnder hout.length hout)))) = true)
    (hh : hSub π π h hout) (hp : post r hout) : outQ C fn post .ret ⟨t, h, nx⟩ :=
  ⟨π, oneOf ys, r, hout, retN hres e hvc, hr, hok, ⟨hS, trivial, hh⟩, hp⟩
end
/-- Cells that are data, as rows. -/
theorem torows {C : Ctx} {c : Code} {Q : Exit → St → Prop} {t : Nat → SV} {h : Heap} {nx : Nat} (n L : Nat) (f : Nat → Nat → D) {ty k : Nat} {xs : List SV} (hn : h n = some (.cells ty k xs)) (hk : 0 < k) (hl : L * k ≤ xs.length) (hf : ∀ i c, i < L → c < k → xs[i * k + c]? = some (.d (f i c)))
    (kk : W C c Q ⟨t, upd h n (some (.rows ty k L f)), nx⟩) : W C c Q ⟨t, h, nx⟩ := by
  refine W_turn (fun M F pin ρ a w hsr => ?_) kk
  refine ⟨M, ρ, Imm.le_refl _, ⟨⟨hsr.tm, hsr.sz, hsr.df, ?_, hsr.pn, hsr.pm, hsr.gl⟩, hsr.fr⟩⟩
  refine hsr.hr.swap n hn (fun x obj hb => ?_) (fun h => by cases h)
  cases obj with
  | cells cur T fz =>
    obtain ⟨h1, h2, h3, h4, h5, h6⟩ := hb
    refine ⟨h1, h2, h3, h4, ?_, fun i c hi hc => ?_⟩
    · have : L * k ≤ x.R * k := by omega
      exact Nat.le_of_mul_le_mul_right this hk
    · obtain ⟨v, k1, k2⟩ := h6 _ _ (hf i c hi hc)
      exact ⟨v, k1, by cases k2 with | d _ _ h => exact h⟩
  | _ => exact hb.elim

/-- Rows written otherwise. -/
theorem rowsc {C : Ctx} {c : Code} {Q : Exit → St → Prop} {t : Nat → SV} {h : Heap} {nx : Nat} (n L' : Nat) (g : Nat → Nat → D) {ty k L : Nat} {f : Nat → Nat → D} (hn : h n = some (.rows ty k L f)) (hl : L = L') (hf : ∀ i c, i < L → c < k → f i c = g i c)
    (kk : W C c Q ⟨t, upd h n (some (.rows ty k L' g)), nx⟩) : W C c Q ⟨t, h, nx⟩ := by
  subst hl
  refine W_turn (fun M F pin ρ a w hsr => ?_) kk
  refine ⟨M, ρ, Imm.le_refl _, ⟨⟨hsr.tm, hsr.sz, hsr.df, ?_, hsr.pn, hsr.pm, hsr.gl⟩, hsr.fr⟩⟩
  refine hsr.hr.swap n hn (fun x obj hb => ?_) (fun h => by cases L with | zero => rfl | succ L => cases h)
  cases obj with
  | cells cur T fz =>
    obtain ⟨h1, h2, h3, h4, h5, h6⟩ := hb
    exact ⟨h1, h2, h3, h4, h5, fun i c hi hc => by rw [← hf i c hi hc]; exact h6 i c hi hc⟩
  | _ => exact hb.elim

/-- A slot that holds data, written otherwise. -/
theorem slotc {C : Ctx} {c : Code} {Q : Exit → St → Prop} {t : Nat → SV} {h : Heap} {nx : Nat} (s : Nat) (u' : SV) {u : SV} (hs : (t s).hd = some u) (hu : ∀ M ρ v, VR M ρ u v → VR M ρ u' v) (kk : W C c Q ⟨upd t s u', h, nx⟩) : W C c Q ⟨t, h, nx⟩ := by
  refine W_turn (fun M F pin ρ a w hsr => ?_) kk
  refine ⟨M, ρ, Imm.le_refl _, ⟨⟨fun n => ?_, hsr.sz, hsr.df, hsr.hr, hsr.pn, hsr.pm, hsr.gl⟩, hsr.fr⟩⟩
  show VR M ρ (upd t s u' n) _
  rw [upd_eq]
  split
  · next e => subst e; have := hsr.tm n; rw [show (⟨t, h, nx⟩ : St).t n = u from SV.hd_eq hs] at this; exact hu M ρ _ this
  · exact hsr.tm n

theorem vecc {C : Ctx} {c : Code} {Q : Exit → St → Prop} {t : Nat → SV} {h : Heap} {nx : Nat} (s L' : Nat) (g : Nat → Nat → D) {k L : Nat} {f : Nat → Nat → D} (hs : (t s).hd = some (.d (.vec k L f))) (hl : L = L') (hf : ∀ i c, i < L → c < k → f i c = g i c) (kk : W C c Q ⟨upd t s (.d (.vec k L' g)), h, nx⟩) : W C c Q ⟨t, h, nx⟩ := by
  subst hl
  exact slotc s _ hs (fun M ρ v hv => hv.vec_congr hf) kk

/-- No elements. -/
theorem nilv {C : Ctx} {c : Code} {Q : Exit → St → Prop} {t : Nat → SV} {h : Heap} {nx : Nat} (s k : Nat) (g : Nat → Nat → D) (hs : (t s).hd = some (.d .nils)) (kk : W C c Q ⟨upd t s (.d (.vec k 0 g)), h, nx⟩) : W C c Q ⟨t, h, nx⟩ :=
  slotc s _ hs (fun M ρ v hv => by cases hv with | d _ _ h => cases h with | nils a => exact .d _ _ (.vec0 _ _ _ _)) kk

theorem lit_okC {C : Ctx} {o : Oper} {nm : Nat} {v : Operand → SV} {h : Heap} {ty e len k : Nat} {parts : Array (Nat × Operand)} {xs : List SV} (f : Nat → Nat → D) (ho : o.op = .buildSlice ty len parts) (he : sliceLitS C.P nm ty len (svParts v parts.toList) = some (True, [], .sl nm 0 len, [(nm, some (.cells e k xs))]))
    (hk : 0 < k) (hl : len * k ≤ xs.length) (hf : ∀ i c, i < len → c < k → xs[i * k + c]? = some (.d (f i c))) : OpOK C o nm v [] (fun x w => x = .d (.vec k len f) ∧ w = []) := by
  obtain ⟨h1, h2, h3⟩ := sliceLit_ok (C := C) (nm := nm) (v := v) (h := h) ho he trivial
  refine .of (ok_freeze h1 f hk hl hf) (OpVal.plain (by rw [ho]; rfl)) (opEv_still fun M F ρ a h w _ _ _ => ?_)
  unfold execOp
  rw [ho]
  exact .bind (still_buildSlice _ _ _) fun _ => .pure _
section
variable {C : Ctx} {ops : List Oper} {i : Nat} {o : Oper} {l : List Oper} {t : Nat → SV} {h h' : Heap} {nx : Nat} {K : St → Prop} {acc : List FP}
/-- A slice literal of data. -/
theorem sLit {ty e len : Nat} {parts : Array (Nat × Operand)} {xs : List SV} (k : Nat) (f : Nat → Nat → D) (d nm i' : Nat) (hi : i + 1 = i') (hnm : nx + 8 * i = nm) (hg : o.guard = none) (hdst : o.dst = some d) (hd : Nat.blt d C.sz = true) (ho : o.op = .buildSlice ty len parts)
    (he : sliceLitS C.P nm ty len (svParts (opv C t) parts.toList) = some (True, [], .sl nm 0 len, [(nm, some (.cells e k xs))])) (hk : Nat.blt 0 k = true) (hl : Nat.ble (len * k) xs.length = true) (hf : ∀ i c, i < len → c < k → xs[i * k + c]? = some (.d (f i c)))
    (kk : wops C ops i' l ⟨upd t d (.d (.vec k len f)), h, nx⟩ none K) : wops C ops i (o :: l) ⟨t, h, nx⟩ none K := by
  subst hi; subst hnm
  refine st_ok (σ := ⟨t, h, nx⟩) (bs := []) (wr := []) hg (by unfold dstOK; rw [hdst]; exact hd) (lit_okC (h := h) f ho he (by simpa using hk) (Nat.le_of_ble_eq_true hl) hf) (fun p hp => by cases hp) rfl ?_
  unfold St.app; rw [hdst]; exact kk

theorem dLit {ty e len : Nat} {parts : Array (Nat × Operand)} {xs : List SV} (k : Nat) (f : Nat → Nat → D) (d nm i' : Nat) (hi : i + 1 = i') (hnm : nx + 8 * i = nm) (hg : o.guard = none) (hdst : o.dst = some d) (hd : Nat.blt d C.sz = true) (ho : o.op = .buildSlice ty len parts)
    (he : sliceLitS C.P nm ty len (svParts (opv C t) parts.toList) = some (True, [], .sl nm 0 len, [(nm, some (.cells e k xs))])) (hk : Nat.blt 0 k = true) (hl : Nat.ble (len * k) xs.length = true) (hf : ∀ i c, i < len → c < k → xs[i * k + c]? = some (.d (f i c)))
    (kk : wops C ops i' l ⟨upd t d (.d (.vec k len f)), h, nx⟩ (some (acc ++ [([], [])])) K) : wops C ops i (o :: l) ⟨t, h, nx⟩ (some acc) K := by
  subst hi; subst hnm
  refine st_ok (σ := ⟨t, h, nx⟩) (bs := []) (wr := []) hg (by unfold dstOK; rw [hdst]; exact hd) (lit_okC (h := h) f ho he (by simpa using hk) (Nat.le_of_ble_eq_true hl) hf) (fun p hp => by cases hp) rfl ?_
  unfold St.app; rw [hdst]; exact kk
end
/-- An empty slice in a cell gets a name. -/
theorem cghostly {C : Ctx} {c : Code} {Q : Exit → St → Prop} {t : Nat → SV} {h : Heap} {nx : Nat} (n j ty k : Nat) (f : Nat → Nat → D) {ty' k' : Nat} {xs : List SV} (hn : h n = some (.cells ty' k' xs)) (hj : xs[j]? = some (.d .nils)) (hne : Nat.beq n nx = false)
    (kk : W C c Q ⟨t, upd (upd h nx (some (.rows ty k 0 f))) n (some (.cells ty' k' (xs.set j (.sl nx 0 0)))), nx + 8⟩) : W C c Q ⟨t, h, nx⟩ := by
  refine W_turn (fun M F pin ρ a w hsr => ?_) kk
  have hfr : ∀ m, nx ≤ m → m < nx + 8 → ρ m = none := fun m h1 _ => hsr.fr m h1
  obtain ⟨ρ', k1, k2, k3, k4⟩ := hsr.hr.ghost hfr ty k f
  have hnn : n ≠ nx := fun e => by subst e; simp at hne
  have hn' : upd h nx (some (.rows ty k 0 f)) n = some (.cells ty' k' xs) := by rw [upd_other _ _ _ _ hnn]; exact hn
  have k5 := k4.swap n hn' (b' := .cells ty' k' (xs.set j (.sl nx 0 0))) (fun x obj hb => ?_) (fun h => by cases h)
  · refine ⟨M, ρ', Imm.le_refl _, ⟨⟨fun m => (hsr.tm m).mono (Imm.le_refl _) k1, hsr.sz, hsr.df, k5, Names.le_trans hsr.pn k1, hsr.pm, hsr.gl⟩, fun m hm => ?_⟩⟩
    have hm' : nx + 8 ≤ m := hm
    rw [k2 m (.inr hm')]; exact hsr.fr m (by show nx ≤ m; omega)
  · cases obj with
    | cells cur T fz =>
      obtain ⟨h1, h2, h3, h4, h5, h6⟩ := hb
      refine ⟨h1, h2, h3, h4, by rw [List.length_set]; exact h5, fun q s hs => ?_⟩
      rw [List.getElem?_set] at hs
      split at hs
      · next e =>
        subst e
        split at hs
        · cases hs
          obtain ⟨v, v1, v2⟩ := h6 j _ hj
          refine ⟨v, v1, ?_⟩
          cases v2 with | d _ _ hd => cases hd with | nils aa => exact .sl0 nx 0 _ k3 rfl aa
        · cases hs
      · exact h6 q s hs
    | _ => exact hb.elim

/-- A loop of at most so many rounds. -/
def Unr (C : Ctx) (c : Code) (Q : Exit → St → Prop) : Nat → St → Prop
  | 0, _ => False
  | n + 1, σ => W C c (thenQ (Unr C c Q n) Q) σ

theorem W_unroll {C : Ctx} {c : Code} {Q : Exit → St → Prop} {σ : St} (n : Nat) (h : Unr C c Q n σ) : W C (.loop c) Q σ := by
  refine W_loop0 (fun n σ => Unr C c Q n σ) n h ?_
  intro n σ hn
  cases n with
  | zero => exact hn.elim
  | succ n =>
    refine W_mono hn ?_
    intro e σ' hq
    cases e with
    | normal => exact ⟨n, by omega, hq⟩
    | _ => exact hq

theorem unr {C : Ctx} {c : Code} {Q : Exit → St → Prop} {n : Nat} {σ : St} (h : W C c (thenQ (Unr C c Q n) Q) σ) : Unr C c Q (n + 1) σ := h

/-- A contract for arguments that say more. -/
theorem Spec.args {P : Program} {G : Nat → SV} {f : FuncId} {args args' : List SV} {hin : List Blk} {post : SV → List (Option Blk) → Prop} (h : Spec P G f args hin post) (hl : args.length = args'.length)
    (hle : ∀ M ρ (i : Nat) (x' : SV), args'[i]? = some x' → ∃ x, args[i]? = some x ∧ ∀ u, VR M ρ x' u → VR M ρ x u) : Spec P G f args' hin post := by
  intro K A F M ρ vs w h0 h1 h2 h3 h4 h5
  refine h K A F M ρ vs w h0 h1 h2 (by rw [h3, hl]) (fun i x hx => ?_) h5
  have hi : i < args'.length := by rw [← hl]; exact (List.getElem?_eq_some_iff.1 hx).1
  obtain ⟨x', hx'⟩ : ∃ x', args'[i]? = some x' := ⟨_, List.getElem?_eq_getElem hi⟩
  obtain ⟨y, hy, hv⟩ := hle M ρ i x' hx'
  rw [hx] at hy; cases hy
  obtain ⟨u, hu, hr⟩ := h4 i x' hx'
  exact ⟨u, hu, hv u hr⟩

/-- A block gets a new name, wherever it is spoken of. -/
theorem rename {C : Ctx} {c : Code} {Q : Exit → St → Prop} {t : Nat → SV} {h : Heap} {nx : Nat} (n : Nat) {b : Blk} (hn : h n = some b) (hne : Nat.beq n nx = false)
    (kk : W C c Q ⟨fun k => mv n nx (t k), upd (upd (fun m => (h m).map (mvB n nx)) n none) nx (some (mvB n nx b)), nx + 8⟩) : W C c Q ⟨t, h, nx⟩ := by
  refine W_turn (fun M F pin ρ a w hsr => ?_) kk
  have hnn : n ≠ nx := fun e => by subst e; simp at hne
  have hnx : ρ nx = none := hsr.fr nx (Nat.le_refl nx)
  let ρ' : Names := fun m => if m = nx then ρ n else ρ m
  have hle : ρ.le ρ' := by
    intro m x hx
    have : m ≠ nx := by rintro rfl; rw [hnx] at hx; cases hx
    simp [ρ', this, hx]
  have hρ : ∀ m z, ρ m = some z → ρ' (mvN n nx m) = some z := by
    intro m z hz
    unfold mvN
    cases e : Nat.beq m n with
    | true => have := Nat.eq_of_beq_eq_true e; subst this; simp [ρ', hz]
    | false => exact hle m z hz
  have hH := hsr.hr
  refine ⟨M, ρ', Imm.le_refl _, ⟨⟨fun k => (hsr.tm k).mv hρ, hsr.sz, hsr.df, ⟨hH.imm, hH.frm, hH.dis, ?_, ?_, ?_⟩, Names.le_trans hsr.pn hle, hsr.pm, fun g ρ => hsr.gl g ρ⟩, ?_⟩⟩
  rotate_left 2
  · have key : ∀ p, upd (upd (fun m => (h m).map (mvB n nx)) n none) nx (some (mvB n nx b)) p ≠ none → h (if p = nx then n else p) ≠ none ∧ upd (upd (fun m => (h m).map (mvB n nx)) n none) nx (some (mvB n nx b)) p = (h (if p = nx then n else p)).map (mvB n nx) ∧ ρ' p = ρ (if p = nx then n else p) ∧ (p ≠ nx → p ≠ n) := by
      intro p hp
      rw [upd_eq] at hp ⊢
      by_cases e : p = nx
      · subst e
        simp only [if_true]
        exact ⟨by rw [hn]; simp, by rw [hn]; rfl, by simp [ρ'], fun h => absurd rfl h⟩
      · rw [if_neg e, upd_eq] at hp
        rw [if_neg e, if_neg e, upd_eq]
        by_cases e2 : p = n
        · rw [if_pos e2] at hp; exact absurd rfl hp
        · rw [if_neg e2] at hp ⊢
          exact ⟨fun e3 => by rw [e3] at hp; exact hp rfl, rfl, by simp [ρ', e], fun _ => e2⟩
    intro p S es hp
    have hp : upd (upd (fun m => (h m).map (mvB n nx)) n none) nx (some (mvB n nx b)) p = some (.fam S es) := hp
    obtain ⟨k1, k2, k3, k4⟩ := key p (by rw [hp]; simp)
    rw [hp] at k2
    obtain ⟨b0, hb0⟩ := Option.ne_none_iff_exists'.1 k1
    rw [hb0] at k2
    obtain ⟨es', rfl, rfl⟩ := mvB_fam (Option.some.inj k2).symm
    obtain ⟨x, hx, g0, g1, g2, g3, g4⟩ := hH.fam _ S es' hb0
    refine ⟨x, by rw [k3]; exact hx, g0, g1, fun q y hq hy h0y => ?_, fun q S2 es2 hqp hq => ?_, g4.mv⟩
    · obtain ⟨j1, j2, j3, j4⟩ := key q hq
      exact g2 _ y j1 (by rw [← j3]; exact hy) h0y
    · have hq : upd (upd (fun m => (h m).map (mvB n nx)) n none) nx (some (mvB n nx b)) q = some (.fam S2 es2) := hq
      obtain ⟨j1, j2, j3, j4⟩ := key q (by rw [hq]; simp)
      rw [hq] at j2
      obtain ⟨b2, hb2⟩ := Option.ne_none_iff_exists'.1 j1
      rw [hb2] at j2
      obtain ⟨es3, rfl, rfl⟩ := mvB_fam (Option.some.inj j2).symm
      refine g3 _ S2 es3 (fun e => hqp ?_) hb2
      by_cases ep : p = nx <;> by_cases eq : q = nx
      · rw [ep, eq]
      · rw [if_pos ep, if_neg eq] at e; exact absurd e (j4 eq)
      · rw [if_neg ep, if_pos eq] at e; exact absurd e.symm (k4 ep)
      · rw [if_neg ep, if_neg eq] at e; exact e
  rotate_right 2
  · intro m blk hm
    have hm : upd (upd (fun m => (h m).map (mvB n nx)) n none) nx (some (mvB n nx b)) m = some blk := hm
    rw [upd_eq] at hm
    split at hm
    · next e =>
      subst e; cases hm
      obtain ⟨x, hx, hr⟩ := hH.live n b hn
      refine ⟨x, by simp [ρ', hx], ?_⟩
      rcases hr with ⟨h0, hg⟩ | ⟨h0, h1, h2, o, h3, h4⟩
      · exact .inl ⟨h0, by rw [ghost_mvB]; exact hg⟩
      · exact .inr ⟨h0, h1, h2, o, h3, h4.mv hρ⟩
    · next e =>
      rw [upd_eq] at hm
      split at hm
      · cases hm
      · next e2 =>
        cases e3 : h m with
        | none => simp [e3] at hm
        | some b0 =>
          simp only [e3, Option.map_some, Option.some.injEq] at hm
          subst hm
          obtain ⟨x, hx, hr⟩ := hH.live m b0 e3
          refine ⟨x, hle m x hx, ?_⟩
          rcases hr with ⟨h0, hg⟩ | ⟨h0, h1, h2, o, h3, h4⟩
          · exact .inl ⟨h0, by rw [ghost_mvB]; exact hg⟩
          · exact .inr ⟨h0, h1, h2, o, h3, h4.mv hρ⟩
  · have key : ∀ p x, upd (upd (fun m => (h m).map (mvB n nx)) n none) nx (some (mvB n nx b)) p ≠ none → ρ' p = some x → h (if p = nx then n else p) ≠ none ∧ ρ (if p = nx then n else p) = some x ∧ (p ≠ nx → p ≠ n) := by
      intro p x hp hx
      rw [upd_eq] at hp
      by_cases e : p = nx
      · subst e
        simp only [if_true]
        exact ⟨by rw [hn]; simp, by simpa [ρ'] using hx, fun h => absurd rfl h⟩
      · rw [if_neg e, upd_eq] at hp
        rw [if_neg e]
        by_cases e2 : p = n
        · rw [if_pos e2] at hp; exact absurd rfl hp
        · rw [if_neg e2] at hp
          refine ⟨fun e3 => by rw [e3] at hp; exact hp rfl, by simpa [ρ', e] using hx, fun _ => e2⟩
    intro p q x y hp hq hx hy h0x h0y hb
    obtain ⟨p1, p2, p3⟩ := key p x hp hx
    obtain ⟨q1, q2, q3⟩ := key q y hq hy
    have := hH.sep _ _ x y p1 q1 p2 q2 h0x h0y hb
    by_cases ep : p = nx <;> by_cases eq : q = nx
    · rw [ep, eq]
    · rw [if_pos ep, if_neg eq] at this; exact absurd this.symm (q3 eq)
    · rw [if_neg ep, if_pos eq] at this; exact absurd this (p3 ep)
    · rw [if_neg ep, if_neg eq] at this; exact this
  · intro m hm
    have hm' : nx + 8 ≤ m := hm
    have : m ≠ nx := by omega
    simp only [ρ', if_neg this]
    exact hsr.fr m (by show nx ≤ m; omega)

theorem dc0 {C : Ctx} {ops : List Oper} {i : Nat} {o : Oper} {l : List Oper} {t : Nat → SV} {h h' : Heap} {nx : Nat} {K : St → Prop} {acc : List FP} {f : FuncId} {args : List SV} {hin : List Blk} {r : SV} {hout : List (Option Blk)} (hF : Spec C.P C.G f args hin (fun r' ho => r' = r ∧ ho = hout)) {x : Operand} {cargs : Array Operand} {tys : Array TypeId} {caps : List SV} {fn : Func}
    (π π2 : List Nat) (nm i' : Nat) (hi : i + 1 = i') (hnm : nx + 8 * i = nm) (hp : π ++ newNames nm (hout.length - hin.length) = π2) (hg : o.guard = none) (hdst : o.dst = none) (ho : o.op = .call { callee := .value x, args := cargs, argTypes := tys }) (hx : opv C t x = .fn f caps) (hf : C.P.funcs[f]? = some fn) (hfn : fnOK fn = true)
    (hargs : mapV (opv C t) cargs.toList ++ caps = renL π args) (side : (Nat.beq π.length hin.length && (nodupB π && (hUnder hin.length (hin.map some) && underL hin.length args))) = true)
    (side2 : (Nat.ble hin.length hout.length && Nat.ble hout.length (hin.length + 8)) = true) (hbs : bsHeap h (bsOf π π hin)) (hw : wrHO h (wrOf π2 π2 hout) = some h')
    (k : wops C ops i' l ⟨t, h', nx⟩ (some (acc ++ [((bsOf π π hin).map (·.1), (wrOf π2 π2 hout).map (·.1))])) K) : wops C ops i (o :: l) ⟨t, h, nx⟩ (some acc) K := by
  subst hi; subst hnm; subst hp
  refine st_call (σ := ⟨t, h, nx⟩) π hF hg (by unfold dstOK; rw [hdst]) ho hx hf hfn hargs side side2 hbs ?_
  unfold St.app; rw [hdst, wrHO_eq hw]; exact k

theorem W_end {C : Ctx} {c : Code} {Q : Exit → St → Prop} {σ : St} (h : W C c (fun e σ' => match e with | .normal => Wn C (Q .normal) σ' | e => Q e σ') σ) : W C c Q σ := by
  intro K A F M pin ρ a w hs b k cs hb hp
  refine h K A F M pin ρ a w hs b k cs hb ?_
  intro e A' M' ρ' σ' a' w' h1 h2 h3 h4 h5
  cases e with
  | normal =>
    obtain ⟨M2, ρ2, σ2, g1, g2, g3⟩ := h5 M' _ pin ρ' a' w' h3.sr
    refine hp .normal A' M2 ρ2 σ2 a' w' h1 (Imm.le_trans h2 g1) ⟨⟨h3.fit.fa, fun b hb => ?_, h3.fit.lt⟩, g2⟩ h4 g3
    obtain ⟨o, ho⟩ := Option.ne_none_iff_exists'.1 (h3.fit.rm b hb)
    rw [g1 b o ho]; simp
  | _ => exact hp _ A' M' ρ' σ' a' w' h1 h2 h3 h4 h5
theorem r0n {C : Ctx} {Q : Exit → St → Prop} {σ : St} {id : Nat} {ops : Array Oper} (k : wops C ops.toList 0 ops.toList σ none (fun σ' => Wn C (Q .normal) σ')) : W C (.region id ops false) Q σ := W_end (W_region k)

theorem rd0n {C : Ctx} {Q : Exit → St → Prop} {σ : St} {id : Nat} {ops : Array Oper} (hm : C.P.follows .mixedOrders = true) (k : wops C ops.toList 0 ops.toList σ (some []) (fun σ' => Wn C (Q .normal) σ')) : W C (.region id ops true) Q σ := W_end (W_region_draw hm k)

theorem idxA_okC {C : Ctx} {o : Oper} {nm : Nat} {v : Operand → SV} {h : Heap} {ty : TypeId} {y ix : Operand} {vc : Prop} {xs : List SV} (ho : o.op = .index ty y ix) (e : arrAggS C.P ty (v y) (v ix) = some (vc, [], .agg xs, [])) (hvc : vc) :
    OpOK C o nm v [] (fun x w => x = .agg xs ∧ w = []) := by
  obtain ⟨h1, h2, h3⟩ := arrAgg_ok (C := C) (nm := nm) (h := h) (v := v) ho e hvc
  refine .of h1 (OpVal.plain (by rw [ho]; rfl)) (opEv_still fun M F ρ a h w _ _ _ => ?_)
  unfold execOp
  rw [ho]
  exact .bind (still_index _ _ _) fun _ => .pure _
theorem sIdxA {C : Ctx} {ops : List Oper} {i : Nat} {o : Oper} {l : List Oper} {t : Nat → SV} {h : Heap} {nx : Nat} {K : St → Prop} {ty : TypeId} {y ix : Operand} {vc : Prop} {xs : List SV} (d nm i' : Nat) (hi : i + 1 = i') (hnm : nx + 8 * i = nm) (hg : o.guard = none) (hdst : o.dst = some d) (hd : Nat.blt d C.sz = true) (ho : o.op = .index ty y ix)
    (e : arrAggS C.P ty (opv C t y) (opv C t ix) = some (vc, [], .agg xs, [])) (hvc : vc) (k : wops C ops i' l ⟨upd t d (.agg xs), h, nx⟩ none K) : wops C ops i (o :: l) ⟨t, h, nx⟩ none K := by
  subst hi; subst hnm
  refine st_ok (σ := ⟨t, h, nx⟩) hg (by unfold dstOK; rw [hdst]; exact hd) (idxA_okC (h := h) ho e hvc) (fun p hp => by cases hp) rfl ?_
  unfold St.app; rw [hdst]; exact k

end Go.Proofs.YtpdojmebloekgaaDoor.Nice.Co
