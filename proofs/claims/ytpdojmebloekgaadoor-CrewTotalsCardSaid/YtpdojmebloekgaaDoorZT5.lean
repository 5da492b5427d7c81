/- Part 5 of the proof of CrewTotals: CoH, CoS, Bits, PackPlain, ZigPlain, ChunkPen, ClassLaid, NiceQ, CoI. -/
import Derived.Test.YtpdojmebloekgaaDoorZT4
import Derived.WalkKit
import Derived.Laws.BitsAllLaws
import Derived.Laws.BitsLemmas
import Derived.Test.YtpdojmebloekgaaDoorProg
import Derived.Test.YtpdojmebloekgaaDoorRows
import Derived.Lib.LaidTab
import Derived.ChangeArms
import Derived.OpenShut
import Derived.Laws.IdiomStrings
namespace Go.Proofs.YtpdojmebloekgaaDoor.Nice.Co
open Go Go.Conc
set_option linter.unusedVariables false
set_option linter.unusedSimpArgs false
theorem st_call {C : Ctx} {ops : List Oper} {i : Nat} {o : Oper} {l : List Oper} {σ : St} {acc : Option (List FP)} {K : St → Prop} {x : Operand} {cargs : Array Operand} {tys : Array TypeId} {f : FuncId} {caps : List SV} {fn : Func} {args : List SV} {hin : List Blk} {r : SV} {hout : List (Option Blk)}
   (π : List Nat) (hF : Spec C.P C.G f args hin (fun r' ho => r' = r ∧ ho = hout)) (hg : o.guard = none) (hd : dstOK C o = true) (ho : o.op = .call { callee := .value x, args := cargs, argTypes := tys }) (hx : opv C σ.t x = .fn f caps) (hf : C.P.funcs[f]? = some fn) (hfn : fnOK fn = true)
   (hargs : mapV (opv C σ.t) cargs.toList ++ caps = renL π args)
   (side : (Nat.beq π.length hin.length && (nodupB π && (hUnder hin.length (hin.map some) && underL hin.length args))) = true)
   (side2 : (Nat.ble hin.length hout.length && Nat.ble hout.length (hin.length + 8)) = true)
   (hbs : bsHeap σ.h (bsOf π π hin))
   (k : wops C ops (i + 1) l (σ.app o.dst (ren (π ++ newNames (σ.nx + 8 * i) (hout.length - hin.length)) r) (wrOf (π ++ newNames (σ.nx + 8 * i) (hout.length - hin.length)) (π ++ newNames (σ.nx + 8 * i) (hout.length - hin.length)) hout))
     (acc.map (· ++ [((bsOf π π hin).map (·.1), (wrOf (π ++ newNames (σ.nx + 8 * i) (hout.length - hin.length)) (π ++ newNames (σ.nx + 8 * i) (hout.length - hin.length)) hout).map (·.1))])) K) : wops C ops i (o :: l) σ acc K := by
 have hok := call_ok (nm := σ.nx + 8 * i) ho hx hf hfn hF π hargs side
 simp only [Bool.and_eq_true] at side side2
 refine st_ok hg hd (fun K A F M ρ a h w h0 h1 h2 h3 h4 h5 gd b ops i rest k cs hoi hw hb hK => hok K A F M ρ a h w h0 h1 h2 h3 h4 h5 gd b ops i rest k cs hoi hw hb fun A' M' ρ' u wr u' w' g0 g1 g2 g3 g4 => hK A' M' ρ' u wr u' w' g0 g1 g2 g3 ?_) (bsHeap_mem hbs) (keysIn_call (Nat.eq_of_beq_eq_true side.1) hout (Nat.le_of_ble_eq_true side2.2) (Nat.le_of_ble_eq_true side2.1)) k
 obtain ⟨r', ho', π2, ⟨rfl, rfl⟩, rfl, rfl, rfl⟩ := g4
 exact ⟨rfl, rfl⟩
theorem W_freeze {C : Ctx} {c : Code} {Q : Exit → St → Prop} {σ : St} (s n len : Nat) {ty k L : Nat} {f : Nat → Nat → D} (hs : σ.t s = .sl n 0 len) (hn : σ.h n = some (.rows ty k L f)) (hl : len ≤ L)
   (h : W C c Q ⟨upd σ.t s (.d (.vec k len f)), upd σ.h n none, σ.nx⟩) : W C c Q σ := by
 refine W_turn (fun M F pin ρ a w hsr => ?_) h
 have hv := hsr.tm s
 rw [hs] at hv
 obtain ⟨M', g1, g2, g3⟩ := HR.still hsr.hr hn hl hv
 refine ⟨M', ρ, g1, ⟨⟨fun j => ?_, hsr.sz, hsr.df, g2, hsr.pn, hsr.pm, fun g ρ => (hsr.gl g ρ).mono g1 (Names.le_refl _)⟩, hsr.fr⟩⟩
 show VR M' ρ (upd σ.t s _ j) _
 rw [upd_eq]
 split
 · next e => subst e; exact g3
 · exact (hsr.tm j).mono g1 (Names.le_refl _)
def sopH (C : Ctx) (nm : Nat) (o : Oper) (v : Operand → SV) (h : Heap) : Option (Prop × List (Nat × Blk) × SV × List (Nat × Option Blk) × Heap) :=
 match sopC C nm o v h with
 | some (vc, bs, u, wr) => match u.hd, wrHO h wr with
   | some u', some h' => some (vc, bs, u', wr, h')
   | _, _ => none
 | none => none
theorem sopH_eq {C : Ctx} {nm : Nat} {o : Oper} {v : Operand → SV} {h h' : Heap} {vc : Prop} {bs : List (Nat × Blk)} {u : SV} {wr : List (Nat × Option Blk)} (e : sopH C nm o v h = some (vc, bs, u, wr, h')) : sopC C nm o v h = some (vc, bs, u, wr) ∧ wrH h wr = h' := by
 unfold sopH at e
 split at e
 · next vc' bs' u' wr' hs =>
   split at e
   · next u2 h2 hu hw =>
     cases e
     rw [SV.hd_eq hu] at hs
     exact ⟨hs, wrHO_eq hw⟩
   · cases e
 · cases e
section
variable {C : Ctx} {ops : List Oper} {i : Nat} {o : Oper} {l : List Oper} {t : Nat → SV} {h h' : Heap} {nx : Nat} {K : St → Prop} {vc : Prop} {bs : List (Nat × Blk)} {u : SV} {wr : List (Nat × Option Blk)} {acc : List FP}
theorem s1 (d nm i' : Nat) (hi : i + 1 = i') (hnm : nx + 8 * i = nm) (hg : o.guard = none) (hdst : o.dst = some d) (hd : Nat.blt d C.sz = true) (e : sopH C nm o (opv C t) h = some (vc, bs, u, wr, h')) (hvc : vc)
   (k : wops C ops i' l ⟨upd t d u, h', nx⟩ none K) : wops C ops i (o :: l) ⟨t, h, nx⟩ none K := by
 subst hi; subst hnm
 obtain ⟨e1, e2⟩ := sopH_eq e
 refine st (σ := ⟨t, h, nx⟩) hg (by unfold dstOK; rw [hdst]; exact hd) e1 hvc ?_
 unfold St.app; rw [hdst, e2]; exact k
theorem s0 (nm i' : Nat) (hi : i + 1 = i') (hnm : nx + 8 * i = nm) (hg : o.guard = none) (hdst : o.dst = none) (e : sopH C nm o (opv C t) h = some (vc, bs, u, wr, h')) (hvc : vc)
   (k : wops C ops i' l ⟨t, h', nx⟩ none K) : wops C ops i (o :: l) ⟨t, h, nx⟩ none K := by
 subst hi; subst hnm
 obtain ⟨e1, e2⟩ := sopH_eq e
 refine st (σ := ⟨t, h, nx⟩) hg (by unfold dstOK; rw [hdst]) e1 hvc ?_
 unfold St.app; rw [hdst, e2]; exact k
theorem s1as (u' : SV) (d nm i' : Nat) (hi : i + 1 = i') (hnm : nx + 8 * i = nm) (hg : o.guard = none) (hdst : o.dst = some d) (hd : Nat.blt d C.sz = true) (e : sopH C nm o (opv C t) h = some (vc, bs, u, wr, h')) (hvc : vc) (hu : u = u')
   (k : wops C ops i' l ⟨upd t d u', h', nx⟩ none K) : wops C ops i (o :: l) ⟨t, h, nx⟩ none K := by
 subst hu; exact s1 d nm i' hi hnm hg hdst hd e hvc k
theorem d1 (d nm i' : Nat) (hi : i + 1 = i') (hnm : nx + 8 * i = nm) (hg : o.guard = none) (hdst : o.dst = some d) (hd : Nat.blt d C.sz = true) (e : sopH C nm o (opv C t) h = some (vc, bs, u, wr, h')) (hvc : vc)
   (k : wops C ops i' l ⟨upd t d u, h', nx⟩ (some (acc ++ [(bs.map (·.1), wr.map (·.1))])) K) : wops C ops i (o :: l) ⟨t, h, nx⟩ (some acc) K := by
 subst hi; subst hnm
 obtain ⟨e1, e2⟩ := sopH_eq e
 refine st (σ := ⟨t, h, nx⟩) hg (by unfold dstOK; rw [hdst]; exact hd) e1 hvc ?_
 unfold St.app; rw [hdst, e2]; exact k
theorem d0 (nm i' : Nat) (hi : i + 1 = i') (hnm : nx + 8 * i = nm) (hg : o.guard = none) (hdst : o.dst = none) (e : sopH C nm o (opv C t) h = some (vc, bs, u, wr, h')) (hvc : vc)
   (k : wops C ops i' l ⟨t, h', nx⟩ (some (acc ++ [(bs.map (·.1), wr.map (·.1))])) K) : wops C ops i (o :: l) ⟨t, h, nx⟩ (some acc) K := by
 subst hi; subst hnm
 obtain ⟨e1, e2⟩ := sopH_eq e
 refine st (σ := ⟨t, h, nx⟩) hg (by unfold dstOK; rw [hdst]) e1 hvc ?_
 unfold St.app; rw [hdst, e2]; exact k
/- behind a guard whose slot is known -/
theorem g1 {A : Option (List FP)} (j : Nat) (want : Bool) (s d : Nat) (i' : Nat) (hi : i + 1 = i') (hg : o.guard = some (j, want)) (hs : gslot ops j = some s) (hb : t s = SV.b want) (hd : dstOK C o = true)
   (on : wops C ops i ({ o with guard := none } :: l) ⟨upd t s (SV.b want), h, nx⟩ A K) : wops C ops i (o :: l) ⟨t, h, nx⟩ A K := by
 refine st_guard (σ := ⟨t, h, nx⟩) hg hs hb (fun _ => on) (fun e => ?_) hd
 cases want <;> simp at e
theorem g0 {A : Option (List FP)} (j : Nat) (want : Bool) (s d : Nat) (i' : Nat) (hi : i + 1 = i') (hg : o.guard = some (j, want)) (hs : gslot ops j = some s) (hb : t s = SV.b (!want)) (hdst : o.dst = some d) (hd : Nat.blt d C.sz = true)
   (off : wops C ops i' l ⟨upd t d (.tup []), h, nx⟩ (A.map (· ++ [([], [])])) K) : wops C ops i (o :: l) ⟨t, h, nx⟩ A K := by
 subst hi
 have same : upd t s (SV.b (!want)) = t := by
   funext k; rw [upd_eq]; split
   · next e => subst e; exact hb.symm
   · rfl
 refine st_guard (σ := ⟨t, h, nx⟩) hg hs hb (fun e => ?_) (fun _ => ?_) (by unfold dstOK; rw [hdst]; exact hd)
 · cases want <;> simp at e
 · unfold St.app; rw [same, hdst]; exact off
theorem gz {A : Option (List FP)} (j : Nat) (want : Bool) (s d : Nat) (i' : Nat) (hi : i + 1 = i') (hg : o.guard = some (j, want)) (hs : gslot ops j = some s) (hb : t s = .tup []) (hdst : o.dst = some d) (hd : Nat.blt d C.sz = true)
   (off : wops C ops i' l ⟨upd t d (.tup []), h, nx⟩ (A.map (· ++ [([], [])])) K) : wops C ops i (o :: l) ⟨t, h, nx⟩ A K := by
 subst hi
 unfold wops
 refine .inl ⟨([], []), _, ⟨by unfold dstOK; rw [hdst]; exact hd, .inr ⟨?_, rfl, rfl⟩⟩, ?_⟩
 · unfold gOff; rw [hg]; exact ⟨s, hs, .inr hb⟩
 · unfold St.app; rw [hdst]; exact off
theorem ask {A : Option (List FP)} (s : Nat) {b : Bool} (hb : (t s).hd = some (SV.b b)) (on : b = true → wops C ops i l ⟨upd t s (SV.b true), h, nx⟩ A K) (off : b = false → wops C ops i l ⟨upd t s (SV.b false), h, nx⟩ A K) : wops C ops i l ⟨t, h, nx⟩ A K := by
 have hb := SV.hd_eq hb
 have same : upd t s (SV.b b) = t := by
   funext k; rw [upd_eq]; split
   · next e => subst e; exact hb.symm
   · rfl
 cases b with
 | true => rw [← same]; exact on rfl
 | false => rw [← same]; exact off rfl
/- calls -/
theorem c1 {f : FuncId} {args : List SV} {hin : List Blk} {r : SV} {hout : List (Option Blk)} (hF : Spec C.P C.G f args hin (fun r' ho => r' = r ∧ ho = hout)) {x : Operand} {cargs : Array Operand} {tys : Array TypeId} {caps : List SV} {fn : Func} {r' : SV}
   (π π2 : List Nat) (d nm i' : Nat) (hi : i + 1 = i') (hnm : nx + 8 * i = nm) (hp : π ++ newNames nm (hout.length - hin.length) = π2) (hg : o.guard = none) (hdst : o.dst = some d) (hd : Nat.blt d C.sz = true) (ho : o.op = .call { callee := .value x, args := cargs, argTypes := tys }) (hx : opv C t x = .fn f caps) (hf : C.P.funcs[f]? = some fn) (hfn : fnOK fn = true)
   (hargs : mapV (opv C t) cargs.toList ++ caps = renL π args) (side : (Nat.beq π.length hin.length && (nodupB π && (hUnder hin.length (hin.map some) && underL hin.length args))) = true)
   (side2 : (Nat.ble hin.length hout.length && Nat.ble hout.length (hin.length + 8)) = true) (hbs : bsHeap h (bsOf π π hin)) (hr : (ren π2 r).hd = some r') (hw : wrHO h (wrOf π2 π2 hout) = some h')
   (k : wops C ops i' l ⟨upd t d r', h', nx⟩ none K) : wops C ops i (o :: l) ⟨t, h, nx⟩ none K := by
 subst hi; subst hnm; subst hp
 refine st_call (σ := ⟨t, h, nx⟩) π hF hg (by unfold dstOK; rw [hdst]; exact hd) ho hx hf hfn hargs side side2 hbs ?_
 unfold St.app; rw [hdst, SV.hd_eq hr, wrHO_eq hw]; exact k
theorem c0 {f : FuncId} {args : List SV} {hin : List Blk} {r : SV} {hout : List (Option Blk)} (hF : Spec C.P C.G f args hin (fun r' ho => r' = r ∧ ho = hout)) {x : Operand} {cargs : Array Operand} {tys : Array TypeId} {caps : List SV} {fn : Func}
   (π π2 : List Nat) (nm i' : Nat) (hi : i + 1 = i') (hnm : nx + 8 * i = nm) (hp : π ++ newNames nm (hout.length - hin.length) = π2) (hg : o.guard = none) (hdst : o.dst = none) (ho : o.op = .call { callee := .value x, args := cargs, argTypes := tys }) (hx : opv C t x = .fn f caps) (hf : C.P.funcs[f]? = some fn) (hfn : fnOK fn = true)
   (hargs : mapV (opv C t) cargs.toList ++ caps = renL π args) (side : (Nat.beq π.length hin.length && (nodupB π && (hUnder hin.length (hin.map some) && underL hin.length args))) = true)
   (side2 : (Nat.ble hin.length hout.length && Nat.ble hout.length (hin.length + 8)) = true) (hbs : bsHeap h (bsOf π π hin)) (hw : wrHO h (wrOf π2 π2 hout) = some h')
   (k : wops C ops i' l ⟨t, h', nx⟩ none K) : wops C ops i (o :: l) ⟨t, h, nx⟩ none K := by
 subst hi; subst hnm; subst hp
 refine st_call (σ := ⟨t, h, nx⟩) π hF hg (by unfold dstOK; rw [hdst]) ho hx hf hfn hargs side side2 hbs ?_
 unfold St.app; rw [hdst, wrHO_eq hw]; exact k
theorem dc1 {f : FuncId} {args : List SV} {hin : List Blk} {r : SV} {hout : List (Option Blk)} (hF : Spec C.P C.G f args hin (fun r' ho => r' = r ∧ ho = hout)) {x : Operand} {cargs : Array Operand} {tys : Array TypeId} {caps : List SV} {fn : Func} {r' : SV}
   (π π2 : List Nat) (d nm i' : Nat) (hi : i + 1 = i') (hnm : nx + 8 * i = nm) (hp : π ++ newNames nm (hout.length - hin.length) = π2) (hg : o.guard = none) (hdst : o.dst = some d) (hd : Nat.blt d C.sz = true) (ho : o.op = .call { callee := .value x, args := cargs, argTypes := tys }) (hx : opv C t x = .fn f caps) (hf : C.P.funcs[f]? = some fn) (hfn : fnOK fn = true)
   (hargs : mapV (opv C t) cargs.toList ++ caps = renL π args) (side : (Nat.beq π.length hin.length && (nodupB π && (hUnder hin.length (hin.map some) && underL hin.length args))) = true)
   (side2 : (Nat.ble hin.length hout.length && Nat.ble hout.length (hin.length + 8)) = true) (hbs : bsHeap h (bsOf π π hin)) (hr : (ren π2 r).hd = some r') (hw : wrHO h (wrOf π2 π2 hout) = some h')
   (k : wops C ops i' l ⟨upd t d r', h', nx⟩ (some (acc ++ [((bsOf π π hin).map (·.1), (wrOf π2 π2 hout).map (·.1))])) K) : wops C ops i (o :: l) ⟨t, h, nx⟩ (some acc) K := by
 subst hi; subst hnm; subst hp
 refine st_call (σ := ⟨t, h, nx⟩) π hF hg (by unfold dstOK; rw [hdst]; exact hd) ho hx hf hfn hargs side side2 hbs ?_
 unfold St.app; rw [hdst, SV.hd_eq hr, wrHO_eq hw]; exact k
/- comparisons of structs -/
theorem sEq {op : BinOp} {ty ty' : TypeId} {y z : Operand} {xs ys : List SV} {fs : Array Field} {b r : Bool} (d nm i' : Nat) (hi : i + 1 = i') (hnm : nx + 8 * i = nm) (hg : o.guard = none) (hdst : o.dst = some d) (hd : Nat.blt d C.sz = true) (ho : o.op = .binOp op ty y z ty')
   (hy : opv C t y = .agg xs) (hz : opv C t z = .agg ys) (hfs : C.P.underlying ty = some (.struct fs)) (hp : C.P.stoodInHeld ty = false) (hm : C.P.eqGuardType C.P.depth ty = false) (hb : eqSV C.P xs ys fs.toList = some b) (hop : (op = .eql ∧ r = b) ∨ (op = .neq ∧ r = !b))
   (k : wops C ops i' l ⟨upd t d (SV.b r), h, nx⟩ none K) : wops C ops i (o :: l) ⟨t, h, nx⟩ none K := by
 subst hi; subst hnm
 refine st_ok (σ := ⟨t, h, nx⟩) hg (by unfold dstOK; rw [hdst]; exact hd) (structEq_okC ho hy hz hfs hp hm hb hop) (fun p hp => by cases hp) rfl ?_
 unfold St.app; rw [hdst]; exact k
theorem dEq {op : BinOp} {ty ty' : TypeId} {y z : Operand} {xs ys : List SV} {fs : Array Field} {b r : Bool} (d nm i' : Nat) (hi : i + 1 = i') (hnm : nx + 8 * i = nm) (hg : o.guard = none) (hdst : o.dst = some d) (hd : Nat.blt d C.sz = true) (ho : o.op = .binOp op ty y z ty')
   (hy : opv C t y = .agg xs) (hz : opv C t z = .agg ys) (hfs : C.P.underlying ty = some (.struct fs)) (hp : C.P.stoodInHeld ty = false) (hm : C.P.eqGuardType C.P.depth ty = false) (hb : eqSV C.P xs ys fs.toList = some b) (hop : (op = .eql ∧ r = b) ∨ (op = .neq ∧ r = !b))
   (k : wops C ops i' l ⟨upd t d (SV.b r), h, nx⟩ (some (acc ++ [([], [])])) K) : wops C ops i (o :: l) ⟨t, h, nx⟩ (some acc) K := by
 subst hi; subst hnm
 refine st_ok (σ := ⟨t, h, nx⟩) hg (by unfold dstOK; rw [hdst]; exact hd) (structEq_okC ho hy hz hfs hp hm hb hop) (fun p hp => by cases hp) rfl ?_
 unfold St.app; rw [hdst]; exact k
end
section
variable {C : Ctx} {ops : List Oper} {i : Nat} {o : Oper} {l : List Oper} {t : Nat → SV} {h h' : Heap} {nx : Nat} {K : St → Prop} {acc : List FP}
/- ends of regions -/
theorem e1 (nx' : Nat) (hn : nx + 8 * ops.length = nx') (k : K ⟨t, h, nx'⟩) : wops C ops i [] ⟨t, h, nx⟩ none K := by subst hn; exact ⟨trivial, k⟩
theorem de1 (nx' : Nat) (hn : nx + 8 * ops.length = nx') (hc : fpOK ops acc = true) (k : K ⟨t, h, nx'⟩) : wops C ops i [] ⟨t, h, nx⟩ (some acc) K := by subst hn; exact ⟨hc, k⟩
end
section
variable {C : Ctx} {Q : Exit → St → Prop} {σ : St}
theorem r1 {id : Nat} {ops : Array Oper} {y : Code} (k : wops C ops.toList 0 ops.toList σ none (fun σ' => W C y Q σ')) : W C (.seq (.region id ops false) y) Q σ := W_seq (W_region k)
theorem r0 {id : Nat} {ops : Array Oper} (k : wops C ops.toList 0 ops.toList σ none (fun σ' => Q .normal σ')) : W C (.region id ops false) Q σ := W_region k
theorem rd1 {id : Nat} {ops : Array Oper} {y : Code} (hm : C.P.follows .mixedOrders = true) (k : wops C ops.toList 0 ops.toList σ (some []) (fun σ' => W C y Q σ')) : W C (.seq (.region id ops true) y) Q σ := W_seq (W_region_draw hm k)
theorem rd0 {id : Nat} {ops : Array Oper} (hm : C.P.follows .mixedOrders = true) (k : wops C ops.toList 0 ops.toList σ (some []) (fun σ' => Q .normal σ')) : W C (.region id ops true) Q σ := W_region_draw hm k
theorem q1 {t : Nat → SV} {h : Heap} {nx : Nat} {c : Operand} {x y : Code} {b : Bool} (hc : (opv C t c).hd = some (SV.b b)) (ht : b = true → W C x Q ⟨t, h, nx⟩) (hf : b = false → W C y Q ⟨t, h, nx⟩) : W C (.cond c x y) Q ⟨t, h, nx⟩ :=
 W_cond (σ := ⟨t, h, nx⟩) (SV.hd_eq hc) ht hf
theorem keep {t : Nat → SV} {h : Heap} {nx : Nat} {c : Code} (ks : List Nat) {l : List (Nat × SV)} (e : keepO t ks = some l) (k : W C c Q ⟨tOf l, h, nx⟩) : W C c Q ⟨t, h, nx⟩ := by
 refine W_turn (fun M F pin ρ a w hs => ?_) k
 refine ⟨M, ρ, Imm.le_refl _, ⟨⟨fun n => ?_, hs.sz, hs.df, hs.hr, hs.pn, hs.pm, hs.gl⟩, hs.fr⟩⟩
 rcases keepO_sub e n with h | h
 · show VR M ρ (tOf l n) _; rw [h]; exact .any _
 · show VR M ρ (tOf l n) _; rw [h]; exact hs.tm n
theorem start {P : Program} {G : Nat → SV} {f : FuncId} {fn : Func} {c : Code} {args : List SV} {hin : List Blk} {post : SV → List (Option Blk) → Prop} (sz m : Nat) (hf : P.funcs[f]? = some fn) (hb : fn.body = some c) (hsz : fn.ntmps = sz) (hm : hin.length = m)
   (hn : Nat.ble args.length sz = true) (h : W ⟨P, sz, m, G⟩ c (outQ ⟨P, sz, m, G⟩ fn post) ⟨tOf (argT 0 args), hOf (hin.map some), m⟩) : Spec P G f args hin post := by
 subst hsz; subst hm
 refine fn_intro hf hb hn ?_
 unfold stOf
 rw [List.length_map]
 exact h
end
theorem arith_okC {C : Ctx} {o : Oper} {nm : Nat} {v : Operand → SV} {op : BinOp} {ty ty' : TypeId} {y z : Operand} {a b r : Int} (ho : o.op = .binOp op ty y z ty') (hy : (v y).hd = some (SV.i a)) (hz : (v z).hd = some (SV.i b)) (hr : arith op a b = some r) (hin : inRange r) :
   OpOK C o nm v [] (fun x w => x = SV.i r ∧ w = []) := .of (arith_ok ho hy hz hr hin) (OpVal.plain (by rw [ho]; rfl)) (bin_ev ho (SV.hd_eq hy) (SV.hd_eq hz))
theorem divPos_okC {C : Ctx} {o : Oper} {nm : Nat} {v : Operand → SV} {op : BinOp} {ty ty' : TypeId} {y z : Operand} {a b r : Int} (ho : o.op = .binOp op ty y z ty') (hy : (v y).hd = some (SV.i a)) (hz : (v z).hd = some (SV.i b)) (hr : divPos op a b = some r) (hin : 0 ≤ a ∧ a ≤ 9223372036854775807 ∧ 0 < b) :
   OpOK C o nm v [] (fun x w => x = SV.i r ∧ w = []) := .of (divPos_ok ho hy hz hr hin) (OpVal.plain (by rw [ho]; rfl)) (bin_ev ho (SV.hd_eq hy) (SV.hd_eq hz))
section
variable {C : Ctx} {ops : List Oper} {i : Nat} {o : Oper} {l : List Oper} {t : Nat → SV} {h h' : Heap} {nx : Nat} {K : St → Prop} {acc : List FP}
theorem sA {op : BinOp} {ty ty' : TypeId} {y z : Operand} {a b r : Int} (d nm i' : Nat) (hi : i + 1 = i') (hnm : nx + 8 * i = nm) (hg : o.guard = none) (hdst : o.dst = some d) (hd : Nat.blt d C.sz = true) (ho : o.op = .binOp op ty y z ty')
   (hy : (opv C t y).hd = some (SV.i a)) (hz : (opv C t z).hd = some (SV.i b)) (hr : arith op a b = some r) (hin : inRange r) (k : wops C ops i' l ⟨upd t d (SV.i r), h, nx⟩ none K) : wops C ops i (o :: l) ⟨t, h, nx⟩ none K := by
 subst hi; subst hnm
 refine st_ok (σ := ⟨t, h, nx⟩) hg (by unfold dstOK; rw [hdst]; exact hd) (arith_okC ho hy hz hr hin) (fun p hp => by cases hp) rfl ?_
 unfold St.app; rw [hdst]; exact k
theorem dA {op : BinOp} {ty ty' : TypeId} {y z : Operand} {a b r : Int} (d nm i' : Nat) (hi : i + 1 = i') (hnm : nx + 8 * i = nm) (hg : o.guard = none) (hdst : o.dst = some d) (hd : Nat.blt d C.sz = true) (ho : o.op = .binOp op ty y z ty')
   (hy : (opv C t y).hd = some (SV.i a)) (hz : (opv C t z).hd = some (SV.i b)) (hr : arith op a b = some r) (hin : inRange r) (k : wops C ops i' l ⟨upd t d (SV.i r), h, nx⟩ (some (acc ++ [([], [])])) K) : wops C ops i (o :: l) ⟨t, h, nx⟩ (some acc) K := by
 subst hi; subst hnm
 refine st_ok (σ := ⟨t, h, nx⟩) hg (by unfold dstOK; rw [hdst]; exact hd) (arith_okC ho hy hz hr hin) (fun p hp => by cases hp) rfl ?_
 unfold St.app; rw [hdst]; exact k
theorem sD {op : BinOp} {ty ty' : TypeId} {y z : Operand} {a b r : Int} (d nm i' : Nat) (hi : i + 1 = i') (hnm : nx + 8 * i = nm) (hg : o.guard = none) (hdst : o.dst = some d) (hd : Nat.blt d C.sz = true) (ho : o.op = .binOp op ty y z ty')
   (hy : (opv C t y).hd = some (SV.i a)) (hz : (opv C t z).hd = some (SV.i b)) (hr : divPos op a b = some r) (hin : 0 ≤ a ∧ a ≤ 9223372036854775807 ∧ 0 < b) (k : wops C ops i' l ⟨upd t d (SV.i r), h, nx⟩ none K) : wops C ops i (o :: l) ⟨t, h, nx⟩ none K := by
 subst hi; subst hnm
 refine st_ok (σ := ⟨t, h, nx⟩) hg (by unfold dstOK; rw [hdst]; exact hd) (divPos_okC ho hy hz hr hin) (fun p hp => by cases hp) rfl ?_
 unfold St.app; rw [hdst]; exact k
theorem dD {op : BinOp} {ty ty' : TypeId} {y z : Operand} {a b r : Int} (d nm i' : Nat) (hi : i + 1 = i') (hnm : nx + 8 * i = nm) (hg : o.guard = none) (hdst : o.dst = some d) (hd : Nat.blt d C.sz = true) (ho : o.op = .binOp op ty y z ty')
   (hy : (opv C t y).hd = some (SV.i a)) (hz : (opv C t z).hd = some (SV.i b)) (hr : divPos op a b = some r) (hin : 0 ≤ a ∧ a ≤ 9223372036854775807 ∧ 0 < b) (k : wops C ops i' l ⟨upd t d (SV.i r), h, nx⟩ (some (acc ++ [([], [])])) K) : wops C ops i (o :: l) ⟨t, h, nx⟩ (some acc) K := by
 subst hi; subst hnm
 refine st_ok (σ := ⟨t, h, nx⟩) hg (by unfold dstOK; rw [hdst]; exact hd) (divPos_okC ho hy hz hr hin) (fun p hp => by cases hp) rfl ?_
 unfold St.app; rw [hdst]; exact k
theorem val {A : Option (List FP)} (s : Nat) (u : SV) {u0 : SV} (hs : (t s).hd = some u0) (hu : u0 = u) (k : wops C ops i l ⟨upd t s u, h, nx⟩ A K) : wops C ops i l ⟨t, h, nx⟩ A K := by
 have same : upd t s u = t := by
   funext n; rw [upd_eq]; split
   · next e => subst e; rw [SV.hd_eq hs, hu]
   · rfl
 rw [← same]; exact k
theorem hval {A : Option (List FP)} (n : Nat) (b : Blk) (hs : h n = some b) (b' : Blk) (hb : b = b') (k : wops C ops i l ⟨t, upd h n (some b'), nx⟩ A K) : wops C ops i l ⟨t, h, nx⟩ A K := by
 have same : upd h n (some b') = h := by
   funext m; rw [upd_eq]; split
   · next e => subst e; rw [hs, hb]
   · rfl
 rw [← same]; exact k
end
section
variable {C : Ctx} {Q : Exit → St → Prop} {σ : St}
theorem loop {c : Code} {t : Nat → SV} {h : Heap} {nx : Nat} {α : Type} (m : Nat) (tl : α → List (Nat × SV)) (hl : α → List (Option Blk)) (I : α → Prop) (μ : α → Nat) (x0 : α) (π : List Nat) (hm : ∀ x, (hl x).length = m)
   (h0 : I x0) (hok : (Nat.beq π.length (hl x0).length && (nodupB π && (pinOk C.m π && (tUnder (hl x0).length (tl x0) && hUnder (hl x0).length (hl x0))))) = true) (ht : tSub π t (tl x0)) (hh : hSub π π h (hl x0))
   (round : ∀ x, I x → W C c (thenQ (fun σ' => ∃ x' π, I x' ∧ μ x' < μ x ∧ Sub C π σ' (tl x') (hl x')) Q) ⟨tOf (tl x), hOf (hl x), m⟩) : W C (.loop c) Q ⟨t, h, nx⟩ := by
 refine W_loop tl hl I μ x0 π h0 ⟨hok, ht, hh⟩ fun x hx => ?_
 have := round x hx
 rw [← hm x] at this
 exact this
theorem tell {c : Code} {t : Nat → SV} {h : Heap} {nx : Nat} (m : Nat) (tl : List (Nat × SV)) (hl : List (Option Blk)) (π : List Nat) (hm : hl.length = m)
   (hok : (Nat.beq π.length hl.length && (nodupB π && (pinOk C.m π && (tUnder hl.length tl && hUnder hl.length hl)))) = true) (ht : tSub π t tl) (hh : hSub π π h hl) (k : W C c Q ⟨tOf tl, hOf hl, m⟩) : W C c Q ⟨t, h, nx⟩ := by
 refine W_sub π tl hl ⟨hok, ht, hh⟩ ?_
 rw [← hm] at k
 exact k
theorem ghostly {c : Code} {t : Nat → SV} {h : Heap} {nx : Nat} (s ty k : Nat) (f : Nat → Nat → D) (hs : (t s).hd = some (.d .nils)) (kk : W C c Q ⟨upd t s (.sl nx 0 0), upd h nx (some (.rows ty k 0 f)), nx + 8⟩) : W C c Q ⟨t, h, nx⟩ := by
 refine W_turn (fun M F pin ρ a w hsr => ?_) kk
 have hv := hsr.tm s
 rw [show (⟨t, h, nx⟩ : St).t s = .d .nils from SV.hd_eq hs] at hv
 have hfr : ∀ n, nx ≤ n → n < nx + 8 → ρ n = none := fun n h1 _ => hsr.fr n h1
 obtain ⟨ρ', k1, k2, k3, k4⟩ := hsr.hr.ghost hfr ty k f
 refine ⟨M, ρ', Imm.le_refl _, ⟨⟨fun n => ?_, hsr.sz, hsr.df, k4, Names.le_trans hsr.pn k1, hsr.pm, hsr.gl⟩, fun n hn => ?_⟩⟩
 · show VR M ρ' (upd t s _ n) _
   rw [upd_eq]
   split
   · next e =>
     subst e
     generalize hq : a.tmps.getD n undef = q at hv
     cases hv with | d _ _ hd => cases hd with | nils aa => exact .sl0 nx 0 _ k3 rfl aa
   · exact (hsr.tm n).mono (Imm.le_refl _) k1
 · have hn' : nx + 8 ≤ n := hn
   rw [k2 n (.inr hn')]; exact hsr.fr n (by show nx ≤ n; omega)
theorem freeze {c : Code} {t : Nat → SV} {h : Heap} {nx : Nat} (s n len : Nat) {ty k L : Nat} {f : Nat → Nat → D} (hs : (t s).hd = some (.sl n 0 len)) (hn : h n = some (.rows ty k L f)) (hl : len ≤ L)
   (kk : W C c Q ⟨upd t s (.d (.vec k len f)), upd h n none, nx⟩) : W C c Q ⟨t, h, nx⟩ :=
 W_freeze (σ := ⟨t, h, nx⟩) s n len (SV.hd_eq hs) hn hl kk
theorem cval {c : Code} {t : Nat → SV} {h : Heap} {nx : Nat} (s : Nat) (u : SV) {u0 : SV} (hs : (t s).hd = some u0) (hu : u0 = u) (k : W C c Q ⟨upd t s u, h, nx⟩) : W C c Q ⟨t, h, nx⟩ := by
 have same : upd t s u = t := by
   funext n; rw [upd_eq]; split
   · next e => subst e; rw [SV.hd_eq hs, hu]
   · rfl
 rw [← same]; exact k
theorem chval {c : Code} {t : Nat → SV} {h : Heap} {nx : Nat} (n : Nat) (b' : Blk) {b : Blk} (hs : h n = some b) (hb : b = b') (k : W C c Q ⟨t, upd h n (some b'), nx⟩) : W C c Q ⟨t, h, nx⟩ := by
 have same : upd h n (some b') = h := by
   funext m; rw [upd_eq]; split
   · next e => subst e; rw [hs, hb]
   · rfl
 rw [← same]; exact k
end
section
variable {C : Ctx} {fn : Func} {post : SV → List (Option Blk) → Prop} {t : Nat → SV} {h : Heap} {nx : Nat}
theorem out0 {π : List Nat} {hout : List (Option Blk)} (hres : fn.results = #[]) (hok : okOut C.m (.tup []) hout = true) (hS : (Nat.beq π.length hout.length && (nodupB π && (pinOk C.m π && (tUnder hout.length [] && hUnder hout.length hout)))) = true)
   (hh : hSub π π h hout) (hp : post (.tup []) hout) : outQ C fn post .ret ⟨t, h, nx⟩ :=
 ⟨π, _, .tup [], hout, RetIs.of (ret0 hres) (fun tmps w => by simp [results, hres]), rfl, hok, ⟨hS, trivial, hh⟩, hp⟩
theorem out1 (s : Nat) {π : List Nat} (r : SV) {hout : List (Option Blk)} {u : SV} (hres : fn.results = #[.tmp s]) (hu : (t s).hd = some u) (hr : u = ren π r) (hok : okOut C.m r hout = true) (hS : (Nat.beq π.length hout.length && (nodupB π && (pinOk C.m π && (tUnder hout.length [] && hUnder hout.length hout)))) = true)
   (hh : hSub π π h hout) (hp : post r hout) : outQ C fn post .ret ⟨t, h, nx⟩ :=
 ⟨π, t s, r, hout, RetIs.of (ret1 hres) (fun tmps w => by simp [results, hres]), by rw [SV.hd_eq hu, hr], hok, ⟨hS, trivial, hh⟩, hp⟩
theorem out2 (s1 s2 : Nat) {π : List Nat} (r1 r2 : SV) {hout : List (Option Blk)} {u1 u2 : SV} (hres : fn.results = #[.tmp s1, .tmp s2]) (hu1 : (t s1).hd = some u1) (hu2 : (t s2).hd = some u2) (hr1 : u1 = ren π r1) (hr2 : u2 = ren π r2) (hok : okOut C.m (.tup [r1, r2]) hout = true)
   (hS : (Nat.beq π.length hout.length && (nodupB π && (pinOk C.m π && (tUnder hout.length [] && hUnder hout.length hout)))) = true) (hh : hSub π π h hout) (hp : post (.tup [r1, r2]) hout) : outQ C fn post .ret ⟨t, h, nx⟩ :=
 ⟨π, .tup [t s1, t s2], .tup [r1, r2], hout, RetIs.of (ret2 hres) (fun tmps w => by simp [results, hres]), by rw [SV.hd_eq hu1, SV.hd_eq hu2, hr1, hr2]; rfl, hok, ⟨hS, trivial, hh⟩, hp⟩
theorem out3 (s1 s2 s3 : Nat) {π : List Nat} (r1 r2 r3 : SV) {hout : List (Option Blk)} {u1 u2 u3 : SV} (hres : fn.results = #[.tmp s1, .tmp s2, .tmp s3]) (hu1 : (t s1).hd = some u1) (hu2 : (t s2).hd = some u2) (hu3 : (t s3).hd = some u3) (hr1 : u1 = ren π r1) (hr2 : u2 = ren π r2) (hr3 : u3 = ren π r3) (hok : okOut C.m (.tup [r1, r2, r3]) hout = true)
   (hS : (Nat.beq π.length hout.length && (nodupB π && (pinOk C.m π && (tUnder hout.length [] && hUnder hout.length hout)))) = true) (hh : hSub π π h hout) (hp : post (.tup [r1, r2, r3]) hout) : outQ C fn post .ret ⟨t, h, nx⟩ :=
 ⟨π, .tup [t s1, t s2, t s3], .tup [r1, r2, r3], hout, RetIs.of (ret3 hres) (fun tmps w => by simp [results, hres]), by rw [SV.hd_eq hu1, SV.hd_eq hu2, SV.hd_eq hu3, hr1, hr2, hr3]; rfl, hok, ⟨hS, trivial, hh⟩, hp⟩
end
theorem resS_ev {C : Ctx} {t : Nat → SV} {h : Heap} {nx : Nat} : ∀ {l : List ResultVar} {vc : Prop} {ys : List SV}, resS C.P t h l = some (vc, ys) → vc → ∀ M F pin ρ a w, SR C M F pin ρ ⟨t, h, nx⟩ a w → At C.P (fun b => M b ≠ none ∨ OwnB ρ h b) (fun b => OwnB ρ h b) (l.mapM (readR a.tmps)) w
 | [], vc, ys, e, hvc, M, F, pin, ρ, a, w, hs => by rw [List.mapM_nil]; exact (Still.pure _).at
 | .tmp s :: r, vc, ys, e, hvc, M, F, pin, ρ, a, w, hs => by
   unfold resS at e
   split at e
   · next vc' ys' hr =>
     cases e
     rw [List.mapM_cons]
     refine .bind (Still.pure _).at fun v w' hv => ?_
     cases hv
     exact .bind (resS_ev hr hvc M F pin ρ a w hs) fun _ _ _ => (Still.pure _).at
   · cases e
 | .cell s ty :: r, vc, ys, e, hvc, M, F, pin, ρ, a, w, hs => by
   unfold resS at e
   split at e
   · next vc' bs u vc'' ys' hl hr =>
     cases e
     obtain ⟨k1, k2⟩ := loadS_ok hl hvc.1
     obtain ⟨v, _, ⟨ad, had, hload⟩, hv⟩ := k2 M F ρ h w (a.tmps.getD s undef) (hs.tm s) hs.hr k1
     obtain ⟨ad', had', g2, g3⟩ := loadS_addr hl hvc.1 (hs.tm s) hs.hr k1
     rw [had] at had'; cases had'
     have hrun : (readR a.tmps (.cell s ty)).run C.P w = .ok v w := by simp [readR, had, asAddr, hload]
     rw [List.mapM_cons]
     refine .bind ?_ fun x w' hx => ?_
     · unfold readR
       simp only [had, asAddr]
       refine .bind (Still.pure _).at fun q w' hq => ?_
       cases hq
       exact at_loadVar g2 g3
     · rw [hrun] at hx; cases hx
       exact .bind (resS_ev hr hvc.2 M F pin ρ a w hs) fun _ _ _ => (Still.pure _).at
   · cases e
theorem retN {C : Ctx} {fn : Func} {t : Nat → SV} {h : Heap} {nx : Nat} {rs : Array ResultVar} {vc : Prop} {ys : List SV} (hres : fn.results = rs) (e : resS C.P t h rs.toList = some (vc, ys)) (hvc : vc) : RetIs C fn ⟨t, h, nx⟩ (oneOf ys) := by
 intro M F pin ρ a w hs
 refine ⟨Nice.retN hres e hvc M F pin ρ a w hs, fun ev hev => ?_⟩
 rw [results_eq, hres] at hev
 have hat : At C.P (fun b => M b ≠ none ∨ OwnB ρ h b) (fun b => OwnB ρ h b) (do let vs ← rs.mapM (readR a.tmps); pure (if h : vs.size = 1 then vs[0] else .tuple vs)) w := by
   refine .bind ?_ fun _ _ _ => (Still.pure _).at
   rw [Array.mapM_eq_mapM_toList]
   intro es e' he
   rw [Sem.events_map] at he
   exact resS_ev e hvc M F pin ρ a w hs es e' he
 rcases hat #[] ev hev with h | h
 · simp at h
 · exact h
section
variable {C : Ctx} {fn : Func} {post : SV → List (Option Blk) → Prop} {t : Nat → SV} {h : Heap} {nx : Nat}
theorem outN {rs : Array ResultVar} {π : List Nat} (r : SV) {hout : List (Option Blk)} {vc : Prop} {ys : List SV} (hres : fn.results = rs) (e : resS C.P t h rs.toList = some (vc, ys)) (hvc : vc) (hr : oneOf ys = ren π r) (hok : okOut C.m r hout = true) (hS : (Nat.beq π.length hout.length && (nodupB π && (pinOk C.m π && (tUnder hout.length [] && hUnder hout.length hout)))) = true)
   (hh : hSub π π h hout) (hp : post r hout) : outQ C fn post .ret ⟨t, h, nx⟩ :=
 ⟨π, oneOf ys, r, hout, retN hres e hvc, hr, hok, ⟨hS, trivial, hh⟩, hp⟩
end
theorem torows {C : Ctx} {c : Code} {Q : Exit → St → Prop} {t : Nat → SV} {h : Heap} {nx : Nat} (n L : Nat) (f : Nat → Nat → D) {ty k : Nat} {xs : List SV} (hn : h n = some (.cells ty k xs)) (hk : 0 < k) (hl : L * k ≤ xs.length) (hf : ∀ i c, i < L → c < k → xs[i * k + c]? = some (.d (f i c)))
   (kk : W C c Q ⟨t, upd h n (some (.rows ty k L f)), nx⟩) : W C c Q ⟨t, h, nx⟩ := by
 refine W_turn (fun M F pin ρ a w hsr => ?_) kk
 refine ⟨M, ρ, Imm.le_refl _, ⟨⟨hsr.tm, hsr.sz, hsr.df, ?_, hsr.pn, hsr.pm, hsr.gl⟩, hsr.fr⟩⟩
 refine hsr.hr.swap n hn (fun x obj hb => ?_) (fun h => by cases h)
 cases obj with
 | cells cur T fz =>
   obtain ⟨h1, h2, h3, h4, h5, h6⟩ := hb
   refine ⟨h1, h2, h3, h4, ?_, fun i c hi hc => ?_⟩
   · have : L * k ≤ x.R * k := by omega
     exact Nat.le_of_mul_le_mul_right this hk
   · obtain ⟨v, k1, k2⟩ := h6 _ _ (hf i c hi hc)
     exact ⟨v, k1, by cases k2 with | d _ _ h => exact h⟩
 | _ => exact hb.elim
theorem rowsc {C : Ctx} {c : Code} {Q : Exit → St → Prop} {t : Nat → SV} {h : Heap} {nx : Nat} (n L' : Nat) (g : Nat → Nat → D) {ty k L : Nat} {f : Nat → Nat → D} (hn : h n = some (.rows ty k L f)) (hl : L = L') (hf : ∀ i c, i < L → c < k → f i c = g i c)
   (kk : W C c Q ⟨t, upd h n (some (.rows ty k L' g)), nx⟩) : W C c Q ⟨t, h, nx⟩ := by
 subst hl
 refine W_turn (fun M F pin ρ a w hsr => ?_) kk
 refine ⟨M, ρ, Imm.le_refl _, ⟨⟨hsr.tm, hsr.sz, hsr.df, ?_, hsr.pn, hsr.pm, hsr.gl⟩, hsr.fr⟩⟩
 refine hsr.hr.swap n hn (fun x obj hb => ?_) (fun h => by cases L with | zero => rfl | succ L => cases h)
 cases obj with
 | cells cur T fz =>
   obtain ⟨h1, h2, h3, h4, h5, h6⟩ := hb
   exact ⟨h1, h2, h3, h4, h5, fun i c hi hc => by rw [← hf i c hi hc]; exact h6 i c hi hc⟩
 | _ => exact hb.elim
theorem lit_okC {C : Ctx} {o : Oper} {nm : Nat} {v : Operand → SV} {h : Heap} {ty e len k : Nat} {parts : Array (Nat × Operand)} {xs : List SV} (f : Nat → Nat → D) (ho : o.op = .buildSlice ty len parts) (he : sliceLitS C.P nm ty len (svParts v parts.toList) = some (True, [], .sl nm 0 len, [(nm, some (.cells e k xs))]))
   (hk : 0 < k) (hl : len * k ≤ xs.length) (hf : ∀ i c, i < len → c < k → xs[i * k + c]? = some (.d (f i c))) : OpOK C o nm v [] (fun x w => x = .d (.vec k len f) ∧ w = []) := by
 obtain ⟨h1, h2, h3⟩ := sliceLit_ok (C := C) (nm := nm) (v := v) (h := h) ho he trivial
 refine .of (ok_freeze h1 f hk hl hf) (OpVal.plain (by rw [ho]; rfl)) (opEv_still fun M F ρ a h w _ _ _ => ?_)
 unfold execOp
 rw [ho]
 exact .bind (still_buildSlice _ _ _) fun _ => .pure _
section
variable {C : Ctx} {ops : List Oper} {i : Nat} {o : Oper} {l : List Oper} {t : Nat → SV} {h h' : Heap} {nx : Nat} {K : St → Prop} {acc : List FP}
theorem sLit {ty e len : Nat} {parts : Array (Nat × Operand)} {xs : List SV} (k : Nat) (f : Nat → Nat → D) (d nm i' : Nat) (hi : i + 1 = i') (hnm : nx + 8 * i = nm) (hg : o.guard = none) (hdst : o.dst = some d) (hd : Nat.blt d C.sz = true) (ho : o.op = .buildSlice ty len parts)
   (he : sliceLitS C.P nm ty len (svParts (opv C t) parts.toList) = some (True, [], .sl nm 0 len, [(nm, some (.cells e k xs))])) (hk : Nat.blt 0 k = true) (hl : Nat.ble (len * k) xs.length = true) (hf : ∀ i c, i < len → c < k → xs[i * k + c]? = some (.d (f i c)))
   (kk : wops C ops i' l ⟨upd t d (.d (.vec k len f)), h, nx⟩ none K) : wops C ops i (o :: l) ⟨t, h, nx⟩ none K := by
 subst hi; subst hnm
 refine st_ok (σ := ⟨t, h, nx⟩) (bs := []) (wr := []) hg (by unfold dstOK; rw [hdst]; exact hd) (lit_okC (h := h) f ho he (by simpa using hk) (Nat.le_of_ble_eq_true hl) hf) (fun p hp => by cases hp) rfl ?_
 unfold St.app; rw [hdst]; exact kk
end
theorem cghostly {C : Ctx} {c : Code} {Q : Exit → St → Prop} {t : Nat → SV} {h : Heap} {nx : Nat} (n j ty k : Nat) (f : Nat → Nat → D) {ty' k' : Nat} {xs : List SV} (hn : h n = some (.cells ty' k' xs)) (hj : xs[j]? = some (.d .nils)) (hne : Nat.beq n nx = false)
   (kk : W C c Q ⟨t, upd (upd h nx (some (.rows ty k 0 f))) n (some (.cells ty' k' (xs.set j (.sl nx 0 0)))), nx + 8⟩) : W C c Q ⟨t, h, nx⟩ := by
 refine W_turn (fun M F pin ρ a w hsr => ?_) kk
 have hfr : ∀ m, nx ≤ m → m < nx + 8 → ρ m = none := fun m h1 _ => hsr.fr m h1
 obtain ⟨ρ', k1, k2, k3, k4⟩ := hsr.hr.ghost hfr ty k f
 have hnn : n ≠ nx := fun e => by subst e; simp at hne
 have hn' : upd h nx (some (.rows ty k 0 f)) n = some (.cells ty' k' xs) := by rw [upd_other _ _ _ _ hnn]; exact hn
 have k5 := k4.swap n hn' (b' := .cells ty' k' (xs.set j (.sl nx 0 0))) (fun x obj hb => ?_) (fun h => by cases h)
 · refine ⟨M, ρ', Imm.le_refl _, ⟨⟨fun m => (hsr.tm m).mono (Imm.le_refl _) k1, hsr.sz, hsr.df, k5, Names.le_trans hsr.pn k1, hsr.pm, hsr.gl⟩, fun m hm => ?_⟩⟩
   have hm' : nx + 8 ≤ m := hm
   rw [k2 m (.inr hm')]; exact hsr.fr m (by show nx ≤ m; omega)
 · cases obj with
   | cells cur T fz =>
     obtain ⟨h1, h2, h3, h4, h5, h6⟩ := hb
     refine ⟨h1, h2, h3, h4, by rw [List.length_set]; exact h5, fun q s hs => ?_⟩
     rw [List.getElem?_set] at hs
     split at hs
     · next e =>
       subst e
       split at hs
       · cases hs
         obtain ⟨v, v1, v2⟩ := h6 j _ hj
         refine ⟨v, v1, ?_⟩
         cases v2 with | d _ _ hd => cases hd with | nils aa => exact .sl0 nx 0 _ k3 rfl aa
       · cases hs
     · exact h6 q s hs
   | _ => exact hb.elim
def Unr (C : Ctx) (c : Code) (Q : Exit → St → Prop) : Nat → St → Prop
 | 0, _ => False
 | n + 1, σ => W C c (thenQ (Unr C c Q n) Q) σ
theorem W_unroll {C : Ctx} {c : Code} {Q : Exit → St → Prop} {σ : St} (n : Nat) (h : Unr C c Q n σ) : W C (.loop c) Q σ := by
 refine W_loop0 (fun n σ => Unr C c Q n σ) n h ?_
 intro n σ hn
 cases n with
 | zero => exact hn.elim
 | succ n =>
   refine W_mono hn ?_
   intro e σ' hq
   cases e with
   | normal => exact ⟨n, by omega, hq⟩
   | _ => exact hq
theorem unr {C : Ctx} {c : Code} {Q : Exit → St → Prop} {n : Nat} {σ : St} (h : W C c (thenQ (Unr C c Q n) Q) σ) : Unr C c Q (n + 1) σ := h
theorem Spec.args {P : Program} {G : Nat → SV} {f : FuncId} {args args' : List SV} {hin : List Blk} {post : SV → List (Option Blk) → Prop} (h : Spec P G f args hin post) (hl : args.length = args'.length)
   (hle : ∀ M ρ (i : Nat) (x' : SV), args'[i]? = some x' → ∃ x, args[i]? = some x ∧ ∀ u, VR M ρ x' u → VR M ρ x u) : Spec P G f args' hin post := by
 intro K A F M ρ vs w h0 h1 h2 h3 h4 h5
 refine h K A F M ρ vs w h0 h1 h2 (by rw [h3, hl]) (fun i x hx => ?_) h5
 have hi : i < args'.length := by rw [← hl]; exact (List.getElem?_eq_some_iff.1 hx).1
 obtain ⟨x', hx'⟩ : ∃ x', args'[i]? = some x' := ⟨_, List.getElem?_eq_getElem hi⟩
 obtain ⟨y, hy, hv⟩ := hle M ρ i x' hx'
 rw [hx] at hy; cases hy
 obtain ⟨u, hu, hr⟩ := h4 i x' hx'
 exact ⟨u, hu, hv u hr⟩
theorem rename {C : Ctx} {c : Code} {Q : Exit → St → Prop} {t : Nat → SV} {h : Heap} {nx : Nat} (n : Nat) {b : Blk} (hn : h n = some b) (hne : Nat.beq n nx = false)
   (kk : W C c Q ⟨fun k => mv n nx (t k), upd (upd (fun m => (h m).map (mvB n nx)) n none) nx (some (mvB n nx b)), nx + 8⟩) : W C c Q ⟨t, h, nx⟩ := by
 refine W_turn (fun M F pin ρ a w hsr => ?_) kk
 have hnn : n ≠ nx := fun e => by subst e; simp at hne
 have hnx : ρ nx = none := hsr.fr nx (Nat.le_refl nx)
 let ρ' : Names := fun m => if m = nx then ρ n else ρ m
 have hle : ρ.le ρ' := by
   intro m x hx
   have : m ≠ nx := by rintro rfl; rw [hnx] at hx; cases hx
   simp [ρ', this, hx]
 have hρ : ∀ m z, ρ m = some z → ρ' (mvN n nx m) = some z := by
   intro m z hz
   unfold mvN
   cases e : Nat.beq m n with
   | true => have := Nat.eq_of_beq_eq_true e; subst this; simp [ρ', hz]
   | false => exact hle m z hz
 have hH := hsr.hr
 refine ⟨M, ρ', Imm.le_refl _, ⟨⟨fun k => (hsr.tm k).mv hρ, hsr.sz, hsr.df, ⟨hH.imm, hH.frm, hH.dis, ?_, ?_, ?_⟩, Names.le_trans hsr.pn hle, hsr.pm, fun g ρ => hsr.gl g ρ⟩, ?_⟩⟩
 rotate_left 2
 · have key : ∀ p, upd (upd (fun m => (h m).map (mvB n nx)) n none) nx (some (mvB n nx b)) p ≠ none → h (if p = nx then n else p) ≠ none ∧ upd (upd (fun m => (h m).map (mvB n nx)) n none) nx (some (mvB n nx b)) p = (h (if p = nx then n else p)).map (mvB n nx) ∧ ρ' p = ρ (if p = nx then n else p) ∧ (p ≠ nx → p ≠ n) := by
     intro p hp
     rw [upd_eq] at hp ⊢
     by_cases e : p = nx
     · subst e
       simp only [if_true]
       exact ⟨by rw [hn]; simp, by rw [hn]; rfl, by simp [ρ'], fun h => absurd rfl h⟩
     · rw [if_neg e, upd_eq] at hp
       rw [if_neg e, if_neg e, upd_eq]
       by_cases e2 : p = n
       · rw [if_pos e2] at hp; exact absurd rfl hp
       · rw [if_neg e2] at hp ⊢
         exact ⟨fun e3 => by rw [e3] at hp; exact hp rfl, rfl, by simp [ρ', e], fun _ => e2⟩
   intro p S es hp
   have hp : upd (upd (fun m => (h m).map (mvB n nx)) n none) nx (some (mvB n nx b)) p = some (.fam S es) := hp
   obtain ⟨k1, k2, k3, k4⟩ := key p (by rw [hp]; simp)
   rw [hp] at k2
   obtain ⟨b0, hb0⟩ := Option.ne_none_iff_exists'.1 k1
   rw [hb0] at k2
   obtain ⟨es', rfl, rfl⟩ := mvB_fam (Option.some.inj k2).symm
   obtain ⟨x, hx, g0, g1, g2, g3, g4⟩ := hH.fam _ S es' hb0
   refine ⟨x, by rw [k3]; exact hx, g0, g1, fun q y hq hy h0y => ?_, fun q S2 es2 hqp hq => ?_, g4.mv⟩
   · obtain ⟨j1, j2, j3, j4⟩ := key q hq
     exact g2 _ y j1 (by rw [← j3]; exact hy) h0y
   · have hq : upd (upd (fun m => (h m).map (mvB n nx)) n none) nx (some (mvB n nx b)) q = some (.fam S2 es2) := hq
     obtain ⟨j1, j2, j3, j4⟩ := key q (by rw [hq]; simp)
     rw [hq] at j2
     obtain ⟨b2, hb2⟩ := Option.ne_none_iff_exists'.1 j1
     rw [hb2] at j2
     obtain ⟨es3, rfl, rfl⟩ := mvB_fam (Option.some.inj j2).symm
     refine g3 _ S2 es3 (fun e => hqp ?_) hb2
     by_cases ep : p = nx <;> by_cases eq : q = nx
     · rw [ep, eq]
     · rw [if_pos ep, if_neg eq] at e; exact absurd e (j4 eq)
     · rw [if_neg ep, if_pos eq] at e; exact absurd e.symm (k4 ep)
     · rw [if_neg ep, if_neg eq] at e; exact e
 rotate_right 2
 · intro m blk hm
   have hm : upd (upd (fun m => (h m).map (mvB n nx)) n none) nx (some (mvB n nx b)) m = some blk := hm
   rw [upd_eq] at hm
   split at hm
   · next e =>
     subst e; cases hm
     obtain ⟨x, hx, hr⟩ := hH.live n b hn
     refine ⟨x, by simp [ρ', hx], ?_⟩
     rcases hr with ⟨h0, hg⟩ | ⟨h0, h1, h2, o, h3, h4⟩
     · exact .inl ⟨h0, by rw [ghost_mvB]; exact hg⟩
     · exact .inr ⟨h0, h1, h2, o, h3, h4.mv hρ⟩
   · next e =>
     rw [upd_eq] at hm
     split at hm
     · cases hm
     · next e2 =>
       cases e3 : h m with
       | none => simp [e3] at hm
       | some b0 =>
         simp only [e3, Option.map_some, Option.some.injEq] at hm
         subst hm
         obtain ⟨x, hx, hr⟩ := hH.live m b0 e3
         refine ⟨x, hle m x hx, ?_⟩
         rcases hr with ⟨h0, hg⟩ | ⟨h0, h1, h2, o, h3, h4⟩
         · exact .inl ⟨h0, by rw [ghost_mvB]; exact hg⟩
         · exact .inr ⟨h0, h1, h2, o, h3, h4.mv hρ⟩
 · have key : ∀ p x, upd (upd (fun m => (h m).map (mvB n nx)) n none) nx (some (mvB n nx b)) p ≠ none → ρ' p = some x → h (if p = nx then n else p) ≠ none ∧ ρ (if p = nx then n else p) = some x ∧ (p ≠ nx → p ≠ n) := by
     intro p x hp hx
     rw [upd_eq] at hp
     by_cases e : p = nx
     · subst e
       simp only [if_true]
       exact ⟨by rw [hn]; simp, by simpa [ρ'] using hx, fun h => absurd rfl h⟩
     · rw [if_neg e, upd_eq] at hp
       rw [if_neg e]
       by_cases e2 : p = n
       · rw [if_pos e2] at hp; exact absurd rfl hp
       · rw [if_neg e2] at hp
         refine ⟨fun e3 => by rw [e3] at hp; exact hp rfl, by simpa [ρ', e] using hx, fun _ => e2⟩
   intro p q x y hp hq hx hy h0x h0y hb
   obtain ⟨p1, p2, p3⟩ := key p x hp hx
   obtain ⟨q1, q2, q3⟩ := key q y hq hy
   have := hH.sep _ _ x y p1 q1 p2 q2 h0x h0y hb
   by_cases ep : p = nx <;> by_cases eq : q = nx
   · rw [ep, eq]
   · rw [if_pos ep, if_neg eq] at this; exact absurd this.symm (q3 eq)
   · rw [if_neg ep, if_pos eq] at this; exact absurd this (p3 ep)
   · rw [if_neg ep, if_neg eq] at this; exact this
 · intro m hm
   have hm' : nx + 8 ≤ m := hm
   have : m ≠ nx := by omega
   simp only [ρ', if_neg this]
   exact hsr.fr m (by show nx ≤ m; omega)
theorem idxA_okC {C : Ctx} {o : Oper} {nm : Nat} {v : Operand → SV} {h : Heap} {ty : TypeId} {y ix : Operand} {vc : Prop} {xs : List SV} (ho : o.op = .index ty y ix) (e : arrAggS C.P ty (v y) (v ix) = some (vc, [], .agg xs, [])) (hvc : vc) :
   OpOK C o nm v [] (fun x w => x = .agg xs ∧ w = []) := by
 obtain ⟨h1, h2, h3⟩ := arrAgg_ok (C := C) (nm := nm) (h := h) (v := v) ho e hvc
 refine .of h1 (OpVal.plain (by rw [ho]; rfl)) (opEv_still fun M F ρ a h w _ _ _ => ?_)
 unfold execOp
 rw [ho]
 exact .bind (still_index _ _ _) fun _ => .pure _
theorem sIdxA {C : Ctx} {ops : List Oper} {i : Nat} {o : Oper} {l : List Oper} {t : Nat → SV} {h : Heap} {nx : Nat} {K : St → Prop} {ty : TypeId} {y ix : Operand} {vc : Prop} {xs : List SV} (d nm i' : Nat) (hi : i + 1 = i') (hnm : nx + 8 * i = nm) (hg : o.guard = none) (hdst : o.dst = some d) (hd : Nat.blt d C.sz = true) (ho : o.op = .index ty y ix)
   (e : arrAggS C.P ty (opv C t y) (opv C t ix) = some (vc, [], .agg xs, [])) (hvc : vc) (k : wops C ops i' l ⟨upd t d (.agg xs), h, nx⟩ none K) : wops C ops i (o :: l) ⟨t, h, nx⟩ none K := by
 subst hi; subst hnm
 refine st_ok (σ := ⟨t, h, nx⟩) hg (by unfold dstOK; rw [hdst]; exact hd) (idxA_okC (h := h) ho e hvc) (fun p hp => by cases hp) rfl ?_
 unfold St.app; rw [hdst]; exact k
end Go.Proofs.YtpdojmebloekgaaDoor.Nice.Co
namespace Go.Proofs.YtpdojmebloekgaaDoor.Nice.Co
open Go
set_option linter.unusedVariables false
section
variable {C : Ctx} {ops : List Oper} {i : Nat} {o : Oper} {l : List Oper} {t : Nat → SV} {h h' : Heap} {nx : Nat} {K : St → Prop} {vc : Prop} {bs : List (Nat × Blk)} {u : SV} {wr : List (Nat × Option Blk)}
/-- The numbers of an operation, looked at together. -/
def numS (C : Ctx) (i nx : Nat) (o : Oper) (d nm i' : Nat) : Bool :=
  Nat.beq (i + 1) i' && (Nat.beq (nx + 8 * i) nm && (o.guard.isNone && ((match o.dst with | some d' => Nat.beq d' d | none => false) && Nat.blt d C.sz)))
def stepS (C : Ctx) (i nx : Nat) (o : Oper) (t : Nat → SV) (h : Heap) (d nm i' : Nat) : Option (Prop × List (Nat × Blk) × SV × List (Nat × Option Blk) × Heap) :=
  match numS C i nx o d nm i' with
  | true => sopH C nm o (opv C t) h
  | false => none
theorem stepS_eq {d nm i' : Nat} (e : stepS C i nx o t h d nm i' = some (vc, bs, u, wr, h')) : i + 1 = i' ∧ nx + 8 * i = nm ∧ o.guard = none ∧ o.dst = some d ∧ Nat.blt d C.sz = true ∧ sopH C nm o (opv C t) h = some (vc, bs, u, wr, h') := by
  unfold stepS at e
  split at e
  · next hn =>
    unfold numS at hn
    simp only [Bool.and_eq_true, Option.isNone_iff_eq_none] at hn
    obtain ⟨h1, h2, h3, h4, h5⟩ := hn
    refine ⟨Nat.eq_of_beq_eq_true h1, Nat.eq_of_beq_eq_true h2, h3, ?_, h5, e⟩
    split at h4
    · next hd => rw [hd, Nat.eq_of_beq_eq_true h4]
    · cases h4
  · cases e
theorem sT (d nm i' : Nat) (e : stepS C i nx o t h d nm i' = some (True, bs, u, wr, h')) (k : wops C ops i' l ⟨upd t d u, h', nx⟩ none K) : wops C ops i (o :: l) ⟨t, h, nx⟩ none K := by
  obtain ⟨h1, h2, h3, h4, h5, h6⟩ := stepS_eq e
  exact s1 d nm i' h1 h2 h3 h4 h5 h6 trivial k
theorem sO (d nm i' : Nat) (e : stepS C i nx o t h d nm i' = some (vc, bs, u, wr, h')) (k : wops C ops i' l ⟨upd t d u, h', nx⟩ none K) (hvc : vc := by first | trivial | omega) : wops C ops i (o :: l) ⟨t, h, nx⟩ none K := by
  obtain ⟨h1, h2, h3, h4, h5, h6⟩ := stepS_eq e
  exact s1 d nm i' h1 h2 h3 h4 h5 h6 hvc k
theorem s0O (nm i' : Nat) (hi : i + 1 = i') (hnm : nx + 8 * i = nm) (hg : o.guard = none) (hdst : o.dst = none) (e : sopH C nm o (opv C t) h = some (vc, bs, u, wr, h')) (k : wops C ops i' l ⟨t, h', nx⟩ none K) (hvc : vc := by first | trivial | omega) : wops C ops i (o :: l) ⟨t, h, nx⟩ none K := s0 nm i' hi hnm hg hdst e hvc k
variable {acc : List FP}
theorem dT (d nm i' : Nat) (e : stepS C i nx o t h d nm i' = some (True, bs, u, wr, h')) (k : wops C ops i' l ⟨upd t d u, h', nx⟩ (some (acc ++ [(bs.map (·.1), wr.map (·.1))])) K) : wops C ops i (o :: l) ⟨t, h, nx⟩ (some acc) K := by
  obtain ⟨h1, h2, h3, h4, h5, h6⟩ := stepS_eq e
  exact d1 d nm i' h1 h2 h3 h4 h5 h6 trivial k
theorem dO (d nm i' : Nat) (e : stepS C i nx o t h d nm i' = some (vc, bs, u, wr, h')) (k : wops C ops i' l ⟨upd t d u, h', nx⟩ (some (acc ++ [(bs.map (·.1), wr.map (·.1))])) K) (hvc : vc := by first | trivial | omega) : wops C ops i (o :: l) ⟨t, h, nx⟩ (some acc) K := by
  obtain ⟨h1, h2, h3, h4, h5, h6⟩ := stepS_eq e
  exact d1 d nm i' h1 h2 h3 h4 h5 h6 hvc k
/-- A sum, difference or product of two numbers, looked at at once. -/
def ariS (C : Ctx) (i nx : Nat) (o : Oper) (t : Nat → SV) (d nm i' : Nat) : Option Int :=
  match numS C i nx o d nm i' with
  | true => match o.op with
    | .binOp op _ y z _ => match (opv C t y).hd, (opv C t z).hd with
      | some (.d (.val (.int .i64 a))), some (.d (.val (.int .i64 b))) => arith op a b
      | _, _ => none
    | _ => none
  | false => none
theorem numS_eq {d nm i' : Nat} (hn : numS C i nx o d nm i' = true) : i + 1 = i' ∧ nx + 8 * i = nm ∧ o.guard = none ∧ o.dst = some d ∧ Nat.blt d C.sz = true := by
  unfold numS at hn
  simp only [Bool.and_eq_true, Option.isNone_iff_eq_none] at hn
  obtain ⟨h1, h2, h3, h4, h5⟩ := hn
  refine ⟨Nat.eq_of_beq_eq_true h1, Nat.eq_of_beq_eq_true h2, h3, ?_, h5⟩
  split at h4
  · next hd => rw [hd, Nat.eq_of_beq_eq_true h4]
  · cases h4
theorem ariS_eq {d nm i' : Nat} {r : Int} (e : ariS C i nx o t d nm i' = some r) : numS C i nx o d nm i' = true ∧ ∃ op ty y z ty' a b, o.op = .binOp op ty y z ty' ∧ (opv C t y).hd = some (SV.i a) ∧ (opv C t z).hd = some (SV.i b) ∧ arith op a b = some r := by
  unfold ariS at e
  split at e
  · next hn =>
    split at e
    · next op ty y z ty' ho =>
      split at e
      · next a b hy hz => exact ⟨hn, op, ty, y, z, ty', a, b, ho, hy, hz, e⟩
      · cases e
    · cases e
  · cases e
theorem sAO (d nm i' : Nat) {r : Int} (e : ariS C i nx o t d nm i' = some r) (k : wops C ops i' l ⟨upd t d (SV.i r), h, nx⟩ none K) (hin : inRange r := by unfold inRange; omega) : wops C ops i (o :: l) ⟨t, h, nx⟩ none K := by
  obtain ⟨hn, op, ty, y, z, ty', a, b, h6, h7, h8, h9⟩ := ariS_eq e
  obtain ⟨h1, h2, h3, h4, h5⟩ := numS_eq hn
  exact sA d nm i' h1 h2 h3 h4 h5 h6 h7 h8 h9 hin k
theorem dAO (d nm i' : Nat) {r : Int} (e : ariS C i nx o t d nm i' = some r) (k : wops C ops i' l ⟨upd t d (SV.i r), h, nx⟩ (some (acc ++ [([], [])])) K) (hin : inRange r := by unfold inRange; omega) : wops C ops i (o :: l) ⟨t, h, nx⟩ (some acc) K := by
  obtain ⟨hn, op, ty, y, z, ty', a, b, h6, h7, h8, h9⟩ := ariS_eq e
  obtain ⟨h1, h2, h3, h4, h5⟩ := numS_eq hn
  exact dA d nm i' h1 h2 h3 h4 h5 h6 h7 h8 h9 hin k
/-- The numbers of a guarded operation, looked at together. -/
def numG (C : Ctx) (ops : List Oper) (i : Nat) (o : Oper) (j : Nat) (want : Bool) (s i' : Nat) : Bool :=
  Nat.beq (i + 1) i' && ((match o.guard with | some (j', w) => Nat.beq j' j && cond want w (!w) | none => false) && ((match gslot ops j with | some s' => Nat.beq s' s | none => false) && dstOK C o))
theorem numG_eq {j s i' : Nat} {want : Bool} (hn : numG C ops i o j want s i' = true) : i + 1 = i' ∧ o.guard = some (j, want) ∧ gslot ops j = some s ∧ dstOK C o = true := by
  unfold numG at hn
  simp only [Bool.and_eq_true] at hn
  obtain ⟨h1, h2, h3, h4⟩ := hn
  refine ⟨Nat.eq_of_beq_eq_true h1, ?_, ?_, h4⟩
  · split at h2
    · next j' w hg =>
      simp only [Bool.and_eq_true] at h2
      rw [hg, Nat.eq_of_beq_eq_true h2.1]
      have h5 := h2.2
      cases want <;> cases w <;> first | rfl | (simp at h5; done)
    · cases h2
  · split at h3
    · next s' hs => rw [hs, Nat.eq_of_beq_eq_true h3]
    · cases h3
theorem gT {A : Option (List FP)} (j : Nat) (want : Bool) (s i' : Nat) (e : numG C ops i o j want s i' = true) (hb : t s = SV.b want)
    (on : wops C ops i ({ o with guard := none } :: l) ⟨upd t s (SV.b want), h, nx⟩ A K) : wops C ops i (o :: l) ⟨t, h, nx⟩ A K := by
  obtain ⟨h1, h2, h3, h4⟩ := numG_eq e
  exact g1 j want s 0 i' h1 h2 h3 hb h4 on
theorem gF {A : Option (List FP)} (j : Nat) (want : Bool) (s d i' : Nat) (e : (numG C ops i o j want s i' && (match o.dst with | some d' => Nat.beq d' d | none => false)) = true) (hb : t s = SV.b (!want))
    (off : wops C ops i' l ⟨upd t d (.tup []), h, nx⟩ (A.map (· ++ [([], [])])) K) : wops C ops i (o :: l) ⟨t, h, nx⟩ A K := by
  simp only [Bool.and_eq_true] at e
  obtain ⟨h1, h2, h3, h4⟩ := numG_eq e.1
  have hd : o.dst = some d := by
    have h5 := e.2
    split at h5
    · next hd => rw [hd, Nat.eq_of_beq_eq_true h5]
    · cases h5
  exact g0 j want s d i' h1 h2 h3 hb hd (by unfold dstOK at h4; rw [hd] at h4; exact h4) off
theorem sV (d nm i' : Nat) (e : stepS C i nx o t h d nm i' = some (vc, bs, u, wr, h')) (hvc : vc) (k : wops C ops i' l ⟨upd t d u, h', nx⟩ none K) : wops C ops i (o :: l) ⟨t, h, nx⟩ none K := sO d nm i' e k hvc
theorem dV (d nm i' : Nat) (e : stepS C i nx o t h d nm i' = some (vc, bs, u, wr, h')) (hvc : vc) (k : wops C ops i' l ⟨upd t d u, h', nx⟩ (some (acc ++ [(bs.map (·.1), wr.map (·.1))])) K) : wops C ops i (o :: l) ⟨t, h, nx⟩ (some acc) K := dO d nm i' e k hvc
end
end Go.Proofs.YtpdojmebloekgaaDoor.Nice.Co
namespace Go.Proofs.YtpdojmebloekgaaDoor
open Go
theorem ofInt_i64 (a : Nat) (ha : a < 9223372036854775808) : (BitVec.ofInt 64 (a : Int)).toNat = a := by
 rw [BitVec.ofInt_natCast, BitVec.toNat_ofNat]; exact Nat.mod_eq_of_lt (by omega)
theorem i64_or_nat (a b : Nat) (ha : a < 9223372036854775808) (hb : b < 9223372036854775808) : bits .or .i64 (a : Int) (b : Int) = ((a ||| b : Nat) : Int) := by
 have hx : a ||| b < 2 ^ 63 := Nat.or_lt_two_pow (by omega) (by omega)
 show IntKind.i64.wrap ((BitVec.ofInt 64 (a : Int) ||| BitVec.ofInt 64 (b : Int)).toNat : Int) = _
 rw [BitVec.toNat_or, ofInt_i64 a ha, ofInt_i64 b hb, IntKind.wrap_i64]
 omega
theorem ofInt_i64_toNat (a : Int) (h1 : -9223372036854775808 ≤ a) (h2 : a < 9223372036854775808) :
   (BitVec.ofInt 64 a).toNat = (if a < 0 then a + 18446744073709551616 else a).toNat := by
 rw [BitVec.toNat_ofInt]
 split <;> omega
theorem i64_wrap_toNat (r : BitVec 64) : IntKind.i64.wrap (r.toNat : Int) = r.toInt := by
 rw [IntKind.wrap_i64, BitVec.toInt_eq_toNat_cond]
 have := r.isLt
 split <;> omega
theorem ofInt_toInt (a : Int) (h1 : -9223372036854775808 ≤ a) (h2 : a < 9223372036854775808) : (BitVec.ofInt 64 a).toInt = a := by
 rw [BitVec.toInt_ofInt]; simp only [Int.bmod]; omega
theorem i64_xor_zero (a : Int) (h1 : -9223372036854775808 ≤ a) (h2 : a < 9223372036854775808) : bits .xor .i64 a 0 = a := by
 show IntKind.i64.wrap ((BitVec.ofInt 64 a ^^^ BitVec.ofInt 64 0).toNat : Int) = _
 rw [i64_wrap_toNat, show BitVec.ofInt 64 0 = 0#64 from rfl, BitVec.xor_zero, ofInt_toInt a h1 h2]
theorem i64_xor_ones (a : Int) (h1 : -9223372036854775808 ≤ a) (h2 : a < 9223372036854775808) : bits .xor .i64 a (-1) = -a - 1 := by
 show IntKind.i64.wrap ((BitVec.ofInt 64 a ^^^ BitVec.ofInt 64 (-1)).toNat : Int) = _
 rw [i64_wrap_toNat, show BitVec.ofInt 64 (-1) = BitVec.allOnes 64 from rfl, BitVec.xor_allOnes]
 rw [BitVec.toInt_not, ofInt_i64_toNat a h1 h2]
 simp only [Int.bmod]
 split <;> omega
theorem i64_and_one (a : Int) (h1 : -9223372036854775808 ≤ a) (h2 : a < 9223372036854775808) : bits .and .i64 a 1 = a % 2 := by
 show IntKind.i64.wrap ((BitVec.ofInt 64 a &&& BitVec.ofInt 64 1).toNat : Int) = _
 rw [BitVec.toNat_and, show (BitVec.ofInt 64 1).toNat = 1 from rfl, Nat.and_one_is_mod, IntKind.wrap_i64, ofInt_i64_toNat a h1 h2]
 split <;> omega
end Go.Proofs.YtpdojmebloekgaaDoor
namespace Go.Proofs.YtpdojmebloekgaaDoor
open Go Go.RowKit
def bitsOf : Nat → Int → List Int
 | 0, _ => []
 | w + 1, v => v / 2 ^ w % 2 :: bitsOf w v
theorem bitsOf_length (w : Nat) (v : Int) : (bitsOf w v).length = w := by induction w with
  | zero => rfl
  | succ w ih => simp [bitsOf, ih]
def AllBits (L : List Int) : Prop := ∀ x ∈ L, x = 0 ∨ x = 1
theorem allBits_nil : AllBits [] := by simp [AllBits]
theorem AllBits.append {L M : List Int} (h : AllBits L) (k : AllBits M) : AllBits (L ++ M) := by
 intro x hx
 rcases List.mem_append.1 hx with hx | hx
 · exact h x hx
 · exact k x hx
theorem AllBits.take {L : List Int} (h : AllBits L) (k : Nat) : AllBits (L.take k) := fun x hx => h x (List.mem_of_mem_take hx)
theorem bitsOf_bits (w : Nat) (v : Int) : AllBits (bitsOf w v) := by
 induction w with
 | zero => exact allBits_nil
 | succ w ih =>
   intro x hx
   rcases List.mem_cons.1 hx with rfl | hx
   · generalize v / 2 ^ w = u; omega
   · exact ih x hx
theorem AllBits.getD {L : List Int} (h : AllBits L) (i : Nat) : L.getD i 0 = 0 ∨ L.getD i 0 = 1 := by
 rcases Nat.lt_or_ge i L.length with hi | hi
 · simpa [List.getD, List.getElem?_eq_getElem hi] using h _ (List.getElem_mem hi)
 · simp [List.getD, List.getElem?_eq_none hi]
theorem bitsOf_get (w j : Nat) (v : Int) (h : j < w) : (bitsOf w v)[j]? = some (v / 2 ^ (w - 1 - j) % 2) := by
 induction w generalizing j with
 | zero => omega
 | succ w ih =>
   cases j with
   | zero => simp [bitsOf]
   | succ j =>
     simp only [bitsOf, List.getElem?_cons_succ]
     rw [ih j (by omega), show w - 1 - j = w + 1 - 1 - (j + 1) by omega]
theorem bitsOf_take (w j : Nat) (v : Int) (h : j < w) : (bitsOf w v).take (j + 1) = (bitsOf w v).take j ++ [v / 2 ^ (w - 1 - j) % 2] := by
 rw [List.take_add_one, bitsOf_get w j v h]; rfl
def packByte (L : List Int) (j : Nat) : Int :=
 L.getD (8 * j) 0 * 128 + L.getD (8 * j + 1) 0 * 64 + L.getD (8 * j + 2) 0 * 32 + L.getD (8 * j + 3) 0 * 16 + L.getD (8 * j + 4) 0 * 8 + L.getD (8 * j + 5) 0 * 4 + L.getD (8 * j + 6) 0 * 2 + L.getD (8 * j + 7) 0
def pack (L : List Int) : List Int := (List.range ((L.length + 7) / 8)).map (packByte L)
theorem pack_length (L : List Int) : (pack L).length = (L.length + 7) / 8 := by simp [pack]
theorem packByte_bd (L : List Int) (h : AllBits L) (j : Nat) : 0 ≤ packByte L j ∧ packByte L j ≤ 255 := by
 have h0 := h.getD (8 * j); have h1 := h.getD (8 * j + 1); have h2 := h.getD (8 * j + 2); have h3 := h.getD (8 * j + 3)
 have h4 := h.getD (8 * j + 4); have h5 := h.getD (8 * j + 5); have h6 := h.getD (8 * j + 6); have h7 := h.getD (8 * j + 7)
 unfold packByte; omega
theorem pack_bd (L : List Int) (h : AllBits L) : ∀ x ∈ pack L, 0 ≤ x ∧ x ≤ 255 := by
 intro x hx
 obtain ⟨j, _, rfl⟩ := List.mem_map.1 hx
 exact packByte_bd L h j
theorem getD_snoc (L : List Int) (b : Int) (i : Nat) : (L ++ [b]).getD i 0 = if i < L.length then L.getD i 0 else if i = L.length then b else 0 := by
 rcases Nat.lt_or_ge i L.length with hi | hi
 · rw [if_pos hi]; simp [List.getD, List.getElem?_append_left hi]
 · rw [if_neg (by omega)]
   by_cases he : i = L.length
   · subst he; simp [List.getD]
   · rw [if_neg he]; simp [List.getD, List.getElem?_eq_none (show (L ++ [b]).length ≤ i by simp; omega)]
theorem getD_over (L : List Int) (i : Nat) (h : L.length ≤ i) : L.getD i 0 = 0 := by simp [List.getD, List.getElem?_eq_none h]
theorem packByte_other (L : List Int) (b : Int) (j : Nat) (h : j ≠ L.length / 8) : packByte (L ++ [b]) j = packByte L j := by
 unfold packByte
 simp only [getD_snoc]
 rcases Nat.lt_or_ge j (L.length / 8) with hj | hj
 · simp only [if_pos (show 8 * j < L.length by omega), if_pos (show 8 * j + 1 < L.length by omega), if_pos (show 8 * j + 2 < L.length by omega), if_pos (show 8 * j + 3 < L.length by omega), if_pos (show 8 * j + 4 < L.length by omega), if_pos (show 8 * j + 5 < L.length by omega), if_pos (show 8 * j + 6 < L.length by omega), if_pos (show 8 * j + 7 < L.length by omega)]
 · simp only [if_neg (show ¬ 8 * j < L.length by omega), if_neg (show ¬ 8 * j + 1 < L.length by omega), if_neg (show ¬ 8 * j + 2 < L.length by omega), if_neg (show ¬ 8 * j + 3 < L.length by omega), if_neg (show ¬ 8 * j + 4 < L.length by omega), if_neg (show ¬ 8 * j + 5 < L.length by omega), if_neg (show ¬ 8 * j + 6 < L.length by omega), if_neg (show ¬ 8 * j + 7 < L.length by omega),
     if_neg (show ¬ 8 * j = L.length by omega), if_neg (show ¬ 8 * j + 1 = L.length by omega), if_neg (show ¬ 8 * j + 2 = L.length by omega), if_neg (show ¬ 8 * j + 3 = L.length by omega), if_neg (show ¬ 8 * j + 4 = L.length by omega), if_neg (show ¬ 8 * j + 5 = L.length by omega), if_neg (show ¬ 8 * j + 6 = L.length by omega), if_neg (show ¬ 8 * j + 7 = L.length by omega)]
   simp only [getD_over L (8 * j) (by omega), getD_over L (8 * j + 1) (by omega), getD_over L (8 * j + 2) (by omega), getD_over L (8 * j + 3) (by omega), getD_over L (8 * j + 4) (by omega), getD_over L (8 * j + 5) (by omega), getD_over L (8 * j + 6) (by omega), getD_over L (8 * j + 7) (by omega)]
theorem getD_snoc8 (L : List Int) (b : Int) (q r i : Nat) (h : L.length = 8 * q + r) : (L ++ [b]).getD (8 * q + i) 0 = if i < r then L.getD (8 * q + i) 0 else if i = r then b else 0 := by
 rw [getD_snoc, h]
 by_cases h1 : i < r
 · rw [if_pos h1, if_pos (by omega)]
 · rw [if_neg h1, if_neg (by omega)]
   by_cases h2 : i = r
   · rw [if_pos h2, if_pos (by omega)]
   · rw [if_neg h2, if_neg (by omega)]
theorem getD_over8 (L : List Int) (q r i : Nat) (h : L.length = 8 * q + r) (hi : r ≤ i) : L.getD (8 * q + i) 0 = 0 := getD_over L _ (by omega)
theorem packByte_def0 (L : List Int) (j : Nat) : packByte L j =
 L.getD (8 * j + 0) 0 * 128 + L.getD (8 * j + 1) 0 * 64 + L.getD (8 * j + 2) 0 * 32 + L.getD (8 * j + 3) 0 * 16 + L.getD (8 * j + 4) 0 * 8 + L.getD (8 * j + 5) 0 * 4 + L.getD (8 * j + 6) 0 * 2 + L.getD (8 * j + 7) 0 := rfl
theorem packByte_last (L : List Int) (hL : AllBits L) (b : Int) (q r : Nat) (h : L.length = 8 * q + r) (hr : r < 8) :
   packByte (L ++ [b]) q = packByte L q + b * 2 ^ (7 - r) ∧ packByte L q % 2 ^ (8 - r) = 0 ∧ 0 ≤ packByte L q ∧ packByte L q ≤ 256 - 2 ^ (8 - r) := by
 have h0 := hL.getD (8 * q + 0); have h1 := hL.getD (8 * q + 1); have h2 := hL.getD (8 * q + 2); have h3 := hL.getD (8 * q + 3)
 have h4 := hL.getD (8 * q + 4); have h5 := hL.getD (8 * q + 5); have h6 := hL.getD (8 * q + 6); have h7 := hL.getD (8 * q + 7)
 have z0 := getD_over8 L q r 0 h; have z1 := getD_over8 L q r 1 h; have z2 := getD_over8 L q r 2 h; have z3 := getD_over8 L q r 3 h
 have z4 := getD_over8 L q r 4 h; have z5 := getD_over8 L q r 5 h; have z6 := getD_over8 L q r 6 h; have z7 := getD_over8 L q r 7 h
 rw [packByte_def0, packByte_def0]
 simp only [getD_snoc8 L b q r _ h]
 generalize L.getD (8 * q + 0) 0 = a0 at *
 generalize L.getD (8 * q + 1) 0 = a1 at *
 generalize L.getD (8 * q + 2) 0 = a2 at *
 generalize L.getD (8 * q + 3) 0 = a3 at *
 generalize L.getD (8 * q + 4) 0 = a4 at *
 generalize L.getD (8 * q + 5) 0 = a5 at *
 generalize L.getD (8 * q + 6) 0 = a6 at *
 generalize L.getD (8 * q + 7) 0 = a7 at *
 have e : r = 0 ∨ r = 1 ∨ r = 2 ∨ r = 3 ∨ r = 4 ∨ r = 5 ∨ r = 6 ∨ r = 7 := by omega
 rcases e with rfl | rfl | rfl | rfl | rfl | rfl | rfl | rfl <;> simp at * <;> omega
theorem pack_get (L : List Int) (j : Nat) : (pack L)[j]? = if j < (L.length + 7) / 8 then some (packByte L j) else none := by
 unfold pack
 rw [List.getElem?_map]
 by_cases h : j < (L.length + 7) / 8
 · rw [if_pos h, List.getElem?_range h]; rfl
 · rw [if_neg h, List.getElem?_eq_none (by simpa using h)]; rfl
def packRoom (L : List Int) : List Int := if L.length % 8 = 0 then pack L ++ [0] else pack L
theorem packRoom_length (L : List Int) : (packRoom L).length = L.length / 8 + 1 := by
 unfold packRoom; split <;> simp [pack_length] <;> omega
theorem packRoom_get (L : List Int) (j : Nat) (h : j < L.length / 8 + 1) : (packRoom L)[j]? = some (packByte L j) := by
 unfold packRoom
 split
 · next h8 =>
   rcases Nat.lt_or_ge j (L.length / 8) with hj | hj
   · rw [List.getElem?_append_left (by rw [pack_length]; omega), pack_get, if_pos (by omega)]
   · have : j = L.length / 8 := by omega
     subst this
     rw [List.getElem?_append_right (by rw [pack_length]; omega), pack_length, show L.length / 8 - (L.length + 7) / 8 = 0 by omega]
     have : packByte L (L.length / 8) = 0 := by
       unfold packByte
       simp only [getD_over L (8 * (L.length / 8)) (by omega), getD_over L (8 * (L.length / 8) + 1) (by omega), getD_over L (8 * (L.length / 8) + 2) (by omega), getD_over L (8 * (L.length / 8) + 3) (by omega), getD_over L (8 * (L.length / 8) + 4) (by omega), getD_over L (8 * (L.length / 8) + 5) (by omega), getD_over L (8 * (L.length / 8) + 6) (by omega), getD_over L (8 * (L.length / 8) + 7) (by omega)]
       rfl
     rw [this]; rfl
 · next h8 => rw [pack_get, if_pos (by omega)]
theorem pack_snoc (L : List Int) (hL : AllBits L) (b : Int) : pack (L ++ [b]) = (packRoom L).set (L.length / 8) (packByte L (L.length / 8) + b * 2 ^ (7 - L.length % 8)) := by
 apply List.ext_getElem?
 intro j
 rw [pack_get, List.length_append, List.length_cons, List.length_nil, List.getElem?_set, packRoom_length]
 by_cases hj : j < L.length / 8 + 1
 · rw [if_pos (by omega)]
   by_cases he : L.length / 8 = j
   · subst he
     rw [if_pos rfl, if_pos hj, (packByte_last L hL b (L.length / 8) (L.length % 8) (by omega) (by omega)).1]
   · rw [if_neg he, packRoom_get L j hj, packByte_other L b j (by omega)]
 · rw [if_neg (by omega), if_neg (by omega), List.getElem?_eq_none (by rw [packRoom_length]; omega)]
theorem pack_or (L : List Int) (hL : AllBits L) (b : Int) (hb : b = 0 ∨ b = 1) :
   bits .or .u8 (packByte L (L.length / 8)) (b * 2 ^ (7 - L.length % 8)) = packByte L (L.length / 8) + b * 2 ^ (7 - L.length % 8) ∧ 0 ≤ b * 2 ^ (7 - L.length % 8) ∧ b * 2 ^ (7 - L.length % 8) < 256 := by
 obtain ⟨_, h2, h3, h4⟩ := packByte_last L hL b (L.length / 8) (L.length % 8) (by omega) (by omega)
 generalize packByte L (L.length / 8) = x at *
 have hr : L.length % 8 < 8 := by omega
 generalize L.length % 8 = r at *
 have e : r = 0 ∨ r = 1 ∨ r = 2 ∨ r = 3 ∨ r = 4 ∨ r = 5 ∨ r = 6 ∨ r = 7 := by omega
 have key : ∀ (m : Nat) (y : Int), 0 ≤ x → x ≤ 255 → x % 2 ^ m = 0 → 0 ≤ y → y < 2 ^ m → m ≤ 8 → bits .or .u8 x y = x + y := by
   intro m y hx0 hx1 hxm hy0 hy1 hm
   have hp : (2 : Int) ^ m ≤ 256 := by
     have : m = 0 ∨ m = 1 ∨ m = 2 ∨ m = 3 ∨ m = 4 ∨ m = 5 ∨ m = 6 ∨ m = 7 ∨ m = 8 := by omega
     rcases this with rfl | rfl | rfl | rfl | rfl | rfl | rfl | rfl | rfl <;> decide
   obtain ⟨X, rfl⟩ := Int.eq_ofNat_of_zero_le hx0
   obtain ⟨Y, rfl⟩ := Int.eq_ofNat_of_zero_le hy0
   rw [u8_or_nat _ _ (by omega) (by omega), nat_join m X Y (by exact_mod_cast hxm) (by exact_mod_cast hy1)]
   omega
 rcases e with rfl | rfl | rfl | rfl | rfl | rfl | rfl | rfl
 · refine ⟨key 8 _ h3 ?_ h2 ?_ ?_ ?_, ?_, ?_⟩ <;> simp at * <;> omega
 · refine ⟨key 7 _ h3 ?_ h2 ?_ ?_ ?_, ?_, ?_⟩ <;> simp at * <;> omega
 · refine ⟨key 6 _ h3 ?_ h2 ?_ ?_ ?_, ?_, ?_⟩ <;> simp at * <;> omega
 · refine ⟨key 5 _ h3 ?_ h2 ?_ ?_ ?_, ?_, ?_⟩ <;> simp at * <;> omega
 · refine ⟨key 4 _ h3 ?_ h2 ?_ ?_ ?_, ?_, ?_⟩ <;> simp at * <;> omega
 · refine ⟨key 3 _ h3 ?_ h2 ?_ ?_ ?_, ?_, ?_⟩ <;> simp at * <;> omega
 · refine ⟨key 2 _ h3 ?_ h2 ?_ ?_ ?_, ?_, ?_⟩ <;> simp at * <;> omega
 · refine ⟨key 1 _ h3 ?_ h2 ?_ ?_ ?_, ?_, ?_⟩ <;> simp at * <;> omega
theorem div_pow_bd (v : Int) (k : Nat) (h1 : -9223372036854775808 ≤ v) (h2 : v < 9223372036854775808) : -9223372036854775808 ≤ v / 2 ^ k ∧ v / 2 ^ k < 9223372036854775808 := by
 have hp : (0 : Int) < 2 ^ k := Int.pow_pos (by decide)
 generalize (2 : Int) ^ k = p at *
 constructor
 · apply Int.le_ediv_of_mul_le hp
   omega
 · apply Int.ediv_lt_of_lt_mul hp
   omega
end Go.Proofs.YtpdojmebloekgaaDoor
namespace Go.Proofs.YtpdojmebloekgaaDoor
open Go Go.RowKit
def zUnf (n : Int) : Int := if n % 2 = 1 then -((n + 1) / 2) else n / 2
def zFold (n : Int) : Int := if n < 0 then -2 * n - 1 else 2 * n
theorem zUnf_xor (n : Int) (h0 : 0 ≤ n) (h1 : n < 576460752303423488) : bits .xor .i64 (n / 2) (-(n % 2)) = zUnf n := by
 unfold zUnf
 split
 · next h => rw [h, i64_xor_ones _ (by omega) (by omega)]; omega
 · next h => rw [show n % 2 = 0 by omega, Int.neg_zero, i64_xor_zero _ (by omega) (by omega)]
theorem zFold_xor (n : Int) (h0 : -288230376151711744 ≤ n) (h1 : n < 288230376151711744) : bits .xor .i64 (n * 2) (n / 9223372036854775808) = zFold n := by
 unfold zFold
 split
 · next h => rw [show n / 9223372036854775808 = -1 by omega, i64_xor_ones _ (by omega) (by omega)]; omega
 · next h => rw [show n / 9223372036854775808 = 0 by omega, i64_xor_zero _ (by omega) (by omega)]; omega
theorem zFold_neg (n : Int) (h : n < 0) : -2 * n - 1 = zFold n := by unfold zFold; rw [if_pos h]
theorem zFold_pos (n : Int) (h : ¬ n < 0) : 2 * n = zFold n := by unfold zFold; rw [if_neg h]
theorem zFold_bd (n : Int) (h0 : -288230376151711744 ≤ n) (h1 : n < 288230376151711744) : 0 ≤ zFold n ∧ zFold n < 576460752303423488 := by
 unfold zFold; split <;> omega
theorem zUnf_bd (n : Int) (h0 : 0 ≤ n) (h1 : n < 576460752303423488) : -288230376151711744 ≤ zUnf n ∧ zUnf n < 288230376151711744 := by
 unfold zUnf; split <;> omega
end Go.Proofs.YtpdojmebloekgaaDoor
namespace Go.Proofs.YtpdojmebloekgaaDoor.Nice.Co
open Go
set_option linter.unusedVariables false
set_option linter.unusedSimpArgs false
set_option maxRecDepth 100000
set_option maxHeartbeats 4000000
def u8F (l : List Int) : Nat → Nat → D := fun i _ => .val (.int .u8 (l.getD i 0))
def u8V (l : List Int) : SV := .d (.vec 1 l.length (u8F l))
theorem room_get (M : List Int) (j : Nat) (h : j < M.length / 8 + 1) : (packRoom M).getD j 0 = packByte M j := by rw [List.getD, packRoom_get M j h]; rfl
theorem room_cat {M : List Int} (h : M.length % 8 = 0) (i c : Nat) (hi : i < (pack M).length + 1) (hc : c < 1) : catR (u8F (pack M)) (pack M).length (litR 1 [.val (.int .u8 0)]) i c = u8F (packRoom M) i c := by
 obtain rfl : c = 0 := by omega
 have e : packRoom M = pack M ++ [0] := by unfold packRoom; rw [if_pos h]
 unfold catR u8F
 rw [e]
 by_cases hlt : i < (pack M).length
 · rw [if_pos hlt]; simp [List.getD, List.getElem?_append_left hlt]
 · obtain rfl : i = (pack M).length := by omega
   rw [if_neg (Nat.lt_irrefl _), Nat.sub_self]
   have : (pack M ++ [0]).getD (pack M).length 0 = 0 := by simp [List.getD]
   rw [this]; rfl
theorem room_same {M : List Int} (h : ¬ M.length % 8 = 0) : packRoom M = pack M := by unfold packRoom; rw [if_neg h]
theorem room_set {M : List Int} (hM : AllBits M) (b x : Int) (hx : x = packByte M (M.length / 8) + b * 2 ^ (7 - M.length % 8)) (i c : Nat) (hi : i < (packRoom M).length) (hc : c < 1) :
   updR (u8F (packRoom M)) (M.length / 8) 0 [.val (.int .u8 x)] i c = u8F (pack (M ++ [b])) i c := by
 obtain rfl : c = 0 := by omega
 subst hx
 rw [pack_snoc M hM b]
 unfold updR u8F
 by_cases h : i = M.length / 8
 · subst h
   simp [List.getD, hi]
 · rw [if_neg (fun e => h e.1)]
   rw [packRoom_length] at hi
   simp [List.getD, Ne.symm h]
theorem room_len {M : List Int} (b : Int) : (packRoom M).length = (pack (M ++ [b])).length := by rw [packRoom_length, pack_length]; simp; omega
theorem shr_val {k v : Int} {q : Nat} (h : k = q) (hq : q ≤ 64) : v.fdiv (2 ^ (min k.toNat 64)) = v / 2 ^ q := by
 subst h
 rw [Int.toNat_natCast, Nat.min_eq_left hq, Int.fdiv_eq_ediv_of_nonneg _ (Int.le_of_lt (Int.pow_pos (by decide)))]
theorem bit_01 (v : Int) (q : Nat) : v / 2 ^ q % 2 = 0 ∨ v / 2 ^ q % 2 = 1 := by generalize v / 2 ^ q = u; omega
theorem and_bit {v : Int} (hv : inRange v) (q : Nat) : IntKind.u8.wrap (bits .and .i64 (v / 2 ^ q) 1) = v / 2 ^ q % 2 := by
 unfold inRange at hv
 have hd := div_pow_bd v q (by omega) (by omega)
 rw [i64_and_one _ hd.1 hd.2]
 have := bit_01 v q
 generalize v / 2 ^ q % 2 = b at *
 rcases this with rfl | rfl <;> decide
theorem shl_bit {b k : Int} {r : Nat} (hb : b = 0 ∨ b = 1) (hr : r < 8) (hk : k = 7 - r) : IntKind.u8.wrap (b * 2 ^ (min k.toNat 8)) = b * 2 ^ (7 - r) := by
 subst hk
 have e : r = 0 ∨ r = 1 ∨ r = 2 ∨ r = 3 ∨ r = 4 ∨ r = 5 ∨ r = 6 ∨ r = 7 := by omega
 rcases hb with rfl | rfl <;> rcases e with rfl | rfl | rfl | rfl | rfl | rfl | rfl | rfl <;> decide
def clL : List Int := [0, 1, 0, 2, 2, 6, 6, 3, 12, 14, 4, 24, 15, 4, 59]
def clF : Nat → Nat → D := fun _ c => .val (.int .i64 (clL.getD c 0))
def GC : Nat → SV
 | 0 => .vp 15 1 clF 0 0
 | _ => .any
def cls (x : Int) : Nat := if x = 0 then 0 else if x < 64 then 1 else if x < 4096 then 2 else if x < 16777216 then 3 else 4
def clH (n : Nat) : Int := [0, 2, 6, 14, 15].getD n 0
def clW (n : Nat) : Nat := [1, 2, 3, 4, 4].getD n 0
def clB (n : Nat) : Nat := [0, 6, 12, 24, 59].getD n 0
def clsS (n : Nat) : SV := .agg [SV.i (clH n), SV.i (clW n), SV.i (clB n)]
theorem cls_lt (x : Int) : cls x < 5 := by unfold cls; repeat' split <;> try omega
theorem clW_le (n : Nat) : clW n ≤ 60 := by
 unfold clW
 match n with
 | 0 | 1 | 2 | 3 | 4 => decide
 | n + 5 => simp
theorem clB_le (n : Nat) : clB n ≤ 60 := by
 unfold clB
 match n with
 | 0 | 1 | 2 | 3 | 4 => decide
 | n + 5 => simp
theorem clH_in (n : Nat) : inRange (clH n) := by
 unfold clH inRange
 match n with
 | 0 | 1 | 2 | 3 | 4 => decide
 | n + 5 => simp
def zput (L : List Int) (n : Int) : List Int := (L ++ bitsOf (clW (cls (zFold n))) (clH (cls (zFold n)))) ++ bitsOf (clB (cls (zFold n))) (zFold n)
def zbits (n : Int) : List Int := bitsOf (clW (cls (zFold n))) (clH (cls (zFold n))) ++ bitsOf (clB (cls (zFold n))) (zFold n)
theorem zput_eq (L : List Int) (n : Int) : zput L n = L ++ zbits n := by unfold zput zbits; rw [List.append_assoc]
theorem zput_bits {L : List Int} (h : AllBits L) (n : Int) : AllBits (zput L n) := (h.append (bitsOf_bits _ _)).append (bitsOf_bits _ _)
theorem zput_len (L : List Int) (n : Int) : (zput L n).length ≤ L.length + 120 := by
 unfold zput
 rw [List.length_append, List.length_append, bitsOf_length, bitsOf_length]
 have := clW_le (cls (zFold n)); have := clB_le (cls (zFold n)); omega
def isSm (n : Int) : Prop := -288230376151711744 ≤ n ∧ n < 288230376151711744
theorem fold_xor {n : Int} (h : isSm n) {a b : Int} (ha : a = n * 2) (hb : b = n / 9223372036854775808) : bits .xor .i64 a b = zFold n := by subst ha; subst hb; exact zFold_xor n h.1 h.2
theorem shl1 {n : Int} (h : isSm n) : IntKind.i64.wrap (n * 2 ^ (min (1 : Int).toNat 64)) = n * 2 := by
 have : (2 : Int) ^ (min (1 : Int).toNat 64) = 2 := rfl
 rw [this]; obtain ⟨h1, h2⟩ := h; exact wrap_in ⟨by omega, by omega⟩
theorem shr63 (n : Int) : n.fdiv (2 ^ (min (63 : Int).toNat 64)) = n / 9223372036854775808 := shr_val (k := 63) (q := 63) rfl (by decide)
theorem put_any (L : List Int) (hL : AllBits L) (hlen : L.length ≤ 1000000) (w : Nat) (v : Int) (hw : w ≤ 60) (hv : inRange v) : Spec Tryd.prog GC 30 [.ptr 0 0 0, SV.i w, SV.i v] [.cells 65 2 [.sl 1 0 (pack L).length, SV.i L.length], .rows 5 1 (pack L).length (u8F (pack L))] (fun r ho => r = SV.tup [] ∧ ho = [some (.cells 65 2 [.sl 2 0 (pack (L ++ bitsOf w v)).length, SV.i (L ++ bitsOf w v).length]), none, some (.rows 5 1 (pack (L ++ bitsOf w v)).length (u8F (pack (L ++ bitsOf w v))))]) := by
 refine start 60 2 Tryd.func30 rfl rfl rfl rfl ?_
 refine r1 <| sT 7 2 1 rfl <| sAO 8 10 2 rfl <| sT 6 18 3 rfl <| e1 26 rfl <| keep [0, 2, 6] rfl <| W_block <| rename 1 rfl rfl ?_
 refine loop (α := Nat × List Int × Int) 3 (fun z => [(0, .ptr 0 0 0), (2, SV.i v), (6, SV.i (z.2.2))]) (fun z => [some (.cells 65 2 [.sl 2 0 (pack (z.2.1)).length, SV.i (z.2.1).length]), none, some (.rows 5 1 (pack (z.2.1)).length (u8F (pack (z.2.1))))]) (fun z => (z.1) ≤ w ∧ (z.2.1) = L ++ (bitsOf w v).take (z.1) ∧ (z.2.2) = w - 1 - (z.1)) (fun z => w - (z.1)) (((0, L, (w : Int) - 1) : Nat × List Int × Int)) [0, 1, 26] (fun _ => rfl) (show (0) ≤ w ∧ (L) = L ++ (bitsOf w v).take (0) ∧ ((w : Int) - 1) = w - 1 - (0) from ⟨Nat.zero_le _, by simp, by simp⟩) rfl ⟨rfl, rfl, rfl, trivial⟩ ⟨rfl, rfl, trivial⟩ (fun z hx => ?_)
 obtain ⟨j, M, k⟩ := z
 show W _ _ _ ⟨tOf [(0, .ptr 0 0 0), (2, SV.i v), (6, SV.i k)], hOf [some (.cells 65 2 [.sl 2 0 (pack M).length, SV.i M.length]), none, some (.rows 5 1 (pack M).length (u8F (pack M)))], 3⟩
 have hx : j ≤ w ∧ M = L ++ (bitsOf w v).take j ∧ k = w - 1 - j := hx
 obtain ⟨hj, hM, hk⟩ := hx
 have hA : AllBits M := (by rw [hM]; exact hL.append ((bitsOf_bits w v).take j))
 have hMl : M.length ≤ 1000060 := (by rw [hM, List.length_append, List.length_take, bitsOf_length]; omega)
 have hpl : (pack M).length ≤ 200000 := (by rw [pack_length]; omega)
 have hrl := packRoom_length M
 refine W_seq <| r1 <| sT 9 3 1 rfl <| sO 10 11 2 rfl <| e1 19 rfl <| keep [0, 2, 6, 10] rfl ?_
 refine q1 rfl (fun hc1 => ?_) (fun hc1 => ?_)
 try simp only [cs, ne_eq] at hc1
 refine W_skip <| tn <| W_seq <| W_block <| W_seq <| r1 <| sT 13 19 1 rfl <| sT 14 27 2 rfl <| sT 15 35 3 rfl <| sO 16 43 4 rfl ?_
 refine sD 17 51 5 rfl rfl rfl rfl rfl rfl rfl rfl rfl (by omega) ?_
 refine sO 18 59 6 rfl <| e1 67 rfl <| keep [0, 2, 6, 18] rfl ?_
 refine q1 rfl (fun hc3 => ?_) (fun hc3 => ?_)
 try simp only [cs, ne_eq] at hc3
 refine r0 ?_
 refine sT 19 67 1 rfl <| sT 20 75 2 rfl <| sT 21 83 3 rfl <| sT 22 91 4 rfl <| sO 23 99 5 rfl <| sT 24 107 6 rfl ?_
 refine sV 25 115 7 rfl ⟨Nat.le_refl _, trivial, (by show ((pack M).length + 1) * 1 ≤ 140737488355328; omega), (by simp only [maxLen]; omega)⟩ ?_
 refine sT 26 123 8 rfl <| sT 27 131 9 rfl <| s0O 139 10 rfl rfl rfl rfl rfl <| e1 147 rfl <| tn ?_
 refine rowsc 115 (packRoom M).length (u8F (packRoom M)) rfl (by rw [hrl, pack_length]; omega) (fun i c hi hc => room_cat (by omega) i c hi hc) ?_
 refine chval 0 (.cells 65 2 [.sl 115 0 (packRoom M).length, SV.i M.length]) rfl (by rw [show (packRoom M).length = (pack M).length + 1 from (by rw [hrl, pack_length]; omega)]; try rfl) ?_
 refine rd1 rfl ?_
 refine dT 28 147 1 rfl <| dT 29 155 2 rfl <| dT 30 163 3 rfl <| dO 31 171 4 rfl <| dT 32 179 5 rfl <| dT 33 187 6 rfl <| dT 34 195 7 rfl <| dO 35 203 8 rfl ?_
 refine dD 36 211 9 rfl rfl rfl rfl rfl rfl rfl rfl rfl (by omega) ?_
 refine dO 37 219 10 rfl ?_
 refine val 37 (.ptr 115 (M.length / 8) 0) rfl (by rw [show ((M.length : Int) / 8).toNat = M.length / 8 by omega, Nat.zero_add]) ?_
 refine dO 38 227 11 rfl ?_
 refine val 38 (.d (.val (.int .u8 (packByte M (M.length / 8))))) rfl (by rw [room_get M _ (by omega)]) ?_
 refine dT 39 235 12 rfl <| dT 40 243 13 rfl ?_
 refine dV 41 251 14 rfl (by show 0 ≤ k; omega) ?_
 refine val 41 (SV.i (v / 2 ^ (w - 1 - j))) rfl (congrArg (fun x => SV.d (D.val (Value.int .i64 x))) (shr_val (by omega) (by omega))) ?_
 refine dO 42 259 15 rfl <| dT 43 267 16 rfl ?_
 refine val 43 (.d (.val (.int .u8 (v / 2 ^ (w - 1 - j) % 2)))) rfl (congrArg (fun x => SV.d (D.val (Value.int .u8 x))) (and_bit hv _)) ?_
 refine dT 44 275 17 rfl <| dT 45 283 18 rfl <| dT 46 291 19 rfl <| dO 47 299 20 rfl ?_
 refine dD 48 307 21 rfl rfl rfl rfl rfl rfl rfl rfl rfl (by omega) ?_
 refine dAO 49 315 22 rfl <| dO 50 323 23 rfl ?_
 refine val 50 (.d (.val (.int .u8 ((v / 2 ^ (w - 1 - j) % 2) * 2 ^ (7 - M.length % 8))))) rfl (congrArg (fun x => SV.d (D.val (Value.int .u8 x))) (shl_bit (bit_01 _ _) (by omega) (by omega))) ?_
 refine dO 51 331 24 rfl ?_
 refine val 51 (.d (.val (.int .u8 (packByte M (M.length / 8) + (v / 2 ^ (w - 1 - j) % 2) * 2 ^ (7 - M.length % 8))))) rfl (congrArg (fun x => SV.d (D.val (Value.int .u8 x))) (pack_or M hA _ (bit_01 _ _)).1) ?_
 refine dO 52 339 25 rfl ?_
 refine val 52 (.ptr 115 (M.length / 8) 0) rfl (by rw [show ((M.length : Int) / 8).toNat = M.length / 8 by omega, Nat.zero_add]) ?_
 refine d0 347 26 rfl rfl rfl rfl rfl (by omega) ?_
 refine de1 355 rfl (by kernel_rfl) <| keep [0, 2, 6] rfl ?_
 refine r0 ?_
 refine sT 53 355 1 rfl <| sT 54 363 2 rfl <| sT 55 371 3 rfl <| sO 56 379 4 rfl <| sAO 57 387 5 rfl <| sT 58 395 6 rfl <| sT 59 403 7 rfl <| s0O 411 8 rfl rfl rfl rfl rfl <| e1 419 rfl <| bn <| tn ?_
 refine rowsc 115 (pack (M ++ [(v / 2 ^ (w - 1 - j) % 2)])).length (u8F (pack (M ++ [(v / 2 ^ (w - 1 - j) % 2)]))) rfl (room_len _) (fun i c hi hc => room_set hA _ _ rfl i c hi hc) ?_
 refine chval 0 (.cells 65 2 [.sl 115 0 (pack (M ++ [(v / 2 ^ (w - 1 - j) % 2)])).length, SV.i (M ++ [(v / 2 ^ (w - 1 - j) % 2)]).length]) rfl (by rw [← room_len, List.length_append]; rfl) ?_
 refine r0 ?_
 refine sT 11 419 1 rfl <| sAO 12 427 2 rfl <| sT 6 435 3 rfl <| e1 443 rfl <| tn ?_
 exact again (((j + 1, M ++ [(v / 2 ^ (w - 1 - j) % 2)], k - 1) : Nat × List Int × Int)) [0, 1, 115] (show (j + 1) ≤ w ∧ (M ++ [(v / 2 ^ (w - 1 - j) % 2)]) = L ++ (bitsOf w v).take (j + 1) ∧ (k - 1) = w - 1 - (j + 1) from ⟨by omega, by rw [hM, bitsOf_take w j v (by omega), List.append_assoc], by omega⟩) (show w - (j + 1) < w - j from (by omega)) rfl ⟨rfl, rfl, rfl, trivial⟩ ⟨rfl, rfl, trivial⟩
 try simp only [cs, ne_eq] at hc3
 refine W_skip <| tn ?_
 refine rowsc 2 (packRoom M).length (u8F (packRoom M)) rfl (by rw [room_same (by omega)]) (fun i c hi hc => by rw [room_same (by omega)]) ?_
 refine chval 0 (.cells 65 2 [.sl 2 0 (packRoom M).length, SV.i M.length]) rfl (by rw [room_same (by omega)]; try rfl) ?_
 refine rd1 rfl ?_
 refine dT 28 67 1 rfl <| dT 29 75 2 rfl <| dT 30 83 3 rfl <| dO 31 91 4 rfl <| dT 32 99 5 rfl <| dT 33 107 6 rfl <| dT 34 115 7 rfl <| dO 35 123 8 rfl ?_
 refine dD 36 131 9 rfl rfl rfl rfl rfl rfl rfl rfl rfl (by omega) ?_
 refine dO 37 139 10 rfl ?_
 refine val 37 (.ptr 2 (M.length / 8) 0) rfl (by rw [show ((M.length : Int) / 8).toNat = M.length / 8 by omega, Nat.zero_add]) ?_
 refine dO 38 147 11 rfl ?_
 refine val 38 (.d (.val (.int .u8 (packByte M (M.length / 8))))) rfl (by rw [room_get M _ (by omega)]) ?_
 refine dT 39 155 12 rfl <| dT 40 163 13 rfl ?_
 refine dV 41 171 14 rfl (by show 0 ≤ k; omega) ?_
 refine val 41 (SV.i (v / 2 ^ (w - 1 - j))) rfl (congrArg (fun x => SV.d (D.val (Value.int .i64 x))) (shr_val (by omega) (by omega))) ?_
 refine dO 42 179 15 rfl <| dT 43 187 16 rfl ?_
 refine val 43 (.d (.val (.int .u8 (v / 2 ^ (w - 1 - j) % 2)))) rfl (congrArg (fun x => SV.d (D.val (Value.int .u8 x))) (and_bit hv _)) ?_
 refine dT 44 195 17 rfl <| dT 45 203 18 rfl <| dT 46 211 19 rfl <| dO 47 219 20 rfl ?_
 refine dD 48 227 21 rfl rfl rfl rfl rfl rfl rfl rfl rfl (by omega) ?_
 refine dAO 49 235 22 rfl <| dO 50 243 23 rfl ?_
 refine val 50 (.d (.val (.int .u8 ((v / 2 ^ (w - 1 - j) % 2) * 2 ^ (7 - M.length % 8))))) rfl (congrArg (fun x => SV.d (D.val (Value.int .u8 x))) (shl_bit (bit_01 _ _) (by omega) (by omega))) ?_
 refine dO 51 251 24 rfl ?_
 refine val 51 (.d (.val (.int .u8 (packByte M (M.length / 8) + (v / 2 ^ (w - 1 - j) % 2) * 2 ^ (7 - M.length % 8))))) rfl (congrArg (fun x => SV.d (D.val (Value.int .u8 x))) (pack_or M hA _ (bit_01 _ _)).1) ?_
 refine dO 52 259 25 rfl ?_
 refine val 52 (.ptr 2 (M.length / 8) 0) rfl (by rw [show ((M.length : Int) / 8).toNat = M.length / 8 by omega, Nat.zero_add]) ?_
 refine d0 267 26 rfl rfl rfl rfl rfl (by omega) ?_
 refine de1 275 rfl (by kernel_rfl) <| keep [0, 2, 6] rfl ?_
 refine r0 ?_
 refine sT 53 275 1 rfl <| sT 54 283 2 rfl <| sT 55 291 3 rfl <| sO 56 299 4 rfl <| sAO 57 307 5 rfl <| sT 58 315 6 rfl <| sT 59 323 7 rfl <| s0O 331 8 rfl rfl rfl rfl rfl <| e1 339 rfl <| bn <| tn ?_
 refine rowsc 2 (pack (M ++ [(v / 2 ^ (w - 1 - j) % 2)])).length (u8F (pack (M ++ [(v / 2 ^ (w - 1 - j) % 2)]))) rfl (room_len _) (fun i c hi hc => room_set hA _ _ rfl i c hi hc) ?_
 refine chval 0 (.cells 65 2 [.sl 2 0 (pack (M ++ [(v / 2 ^ (w - 1 - j) % 2)])).length, SV.i (M ++ [(v / 2 ^ (w - 1 - j) % 2)]).length]) rfl (by rw [← room_len, List.length_append]; rfl) ?_
 refine r0 ?_
 refine sT 11 339 1 rfl <| sAO 12 347 2 rfl <| sT 6 355 3 rfl <| e1 363 rfl <| tn ?_
 exact again (((j + 1, M ++ [(v / 2 ^ (w - 1 - j) % 2)], k - 1) : Nat × List Int × Int)) [0, 1, 2] (show (j + 1) ≤ w ∧ (M ++ [(v / 2 ^ (w - 1 - j) % 2)]) = L ++ (bitsOf w v).take (j + 1) ∧ (k - 1) = w - 1 - (j + 1) from ⟨by omega, by rw [hM, bitsOf_take w j v (by omega), List.append_assoc], by omega⟩) (show w - (j + 1) < w - j from (by omega)) rfl ⟨rfl, rfl, rfl, trivial⟩ ⟨rfl, rfl, trivial⟩
 try simp only [cs, ne_eq] at hc1
 refine W_exit <| tx <| tx <| bx ?_
 obtain rfl : M = L ++ bitsOf w v := (by rw [hM, List.take_of_length_le (by rw [bitsOf_length]; omega)])
 exact out0 (π := [0, 1, 2]) (hout := [some (.cells 65 2 [.sl 2 0 (pack (L ++ bitsOf w v)).length, SV.i (L ++ bitsOf w v).length]), none, some (.rows 5 1 (pack (L ++ bitsOf w v)).length (u8F (pack (L ++ bitsOf w v))))]) Tryd.results30 rfl rfl ⟨rfl, rfl, trivial⟩ ⟨rfl, rfl⟩
theorem small_any (n : Int) : Spec Tryd.prog GC 88 [SV.i n] [] (fun r ho => r = SV.b (decide (-288230376151711744 ≤ n) && decide (n < 288230376151711744)) ∧ ho = []) := by
 refine start 9 0 Tryd.func88 rfl rfl rfl rfl ?_
 refine r1 <| sT 2 0 1 rfl <| e1 8 rfl <| keep [0] rfl <| r1 <| sT 3 8 1 rfl <| sO 4 16 2 rfl <| sT 5 24 3 rfl ?_
 refine ask 5 rfl (fun hg1_5 => ?_) (fun hg1_5 => ?_)
 try simp only [cs, ne_eq] at hg1_5
 refine gT 2 true 5 4 rfl rfl <| sT 6 32 4 rfl <| gT 2 true 5 5 rfl rfl <| sO 7 40 5 rfl <| sT 8 48 6 rfl <| sT 2 56 7 rfl <| e1 64 rfl <| keep [2] rfl <| W_ret ?_
 exact out1 2 (SV.b (decide (-288230376151711744 ≤ n) && decide (n < 288230376151711744))) (π := []) (hout := []) Tryd.results88 rfl (by show SV.b _ = SV.b _; refine congrArg SV.b (Bool.eq_iff_iff.2 ?_); simp at *; try omega) rfl rfl trivial ⟨rfl, rfl⟩
 try simp only [cs, ne_eq] at hg1_5
 refine gF 2 true 5 6 4 rfl rfl <| gF 2 true 5 7 5 rfl rfl <| sT 8 48 6 rfl <| sT 2 56 7 rfl <| e1 64 rfl <| keep [2] rfl <| W_ret ?_
 exact out1 2 (SV.b (decide (-288230376151711744 ≤ n) && decide (n < 288230376151711744))) (π := []) (hout := []) Tryd.results88 rfl (by show SV.b _ = SV.b _; refine congrArg SV.b (Bool.eq_iff_iff.2 ?_); simp at *; try omega) rfl rfl trivial ⟨rfl, rfl⟩
theorem fold_any (n : Int) (h : isSm n) : Spec Tryd.prog GC 74 [SV.i n] [] (fun r ho => r = SV.tup [SV.i (zFold n), SV.i 0] ∧ ho = []) := by
 refine start 12 0 Tryd.func74 rfl rfl rfl rfl ?_
 refine r1 <| sT 2 0 1 rfl <| sT 3 8 2 rfl <| e1 16 rfl <| keep [0] rfl <| W_seq <| r1 <| sT 4 16 1 rfl ?_
 refine c1 (small_any n) [] [] 5 24 2 rfl rfl rfl rfl rfl rfl rfl rfl Tryd.func88 rfl rfl rfl rfl trivial rfl rfl ?_
 refine sT 6 32 3 rfl <| e1 40 rfl <| keep [0, 6] rfl ?_
 refine q1 rfl (fun hc1 => ?_) (fun hc1 => ?_)
 exfalso; have := h.1; have := h.2; simp at hc1; omega
 try simp only [cs, ne_eq] at hc1
 refine W_skip <| tn <| r1 <| sT 7 40 1 rfl ?_
 refine sV 8 48 2 rfl (by decide) ?_
 refine val 8 (SV.i (n * 2)) rfl (congrArg (fun x => SV.d (D.val (Value.int .i64 x))) (shl1 h)) ?_
 refine sT 9 56 3 rfl ?_
 refine sV 10 64 4 rfl (by decide) ?_
 refine val 10 (SV.i (n / 9223372036854775808)) rfl (congrArg (fun x => SV.d (D.val (Value.int .i64 x))) (shr63 n)) ?_
 refine sO 11 72 5 rfl ?_
 refine val 11 (SV.i (zFold n)) rfl (congrArg (fun x => SV.d (D.val (Value.int .i64 x))) (fold_xor h rfl rfl)) ?_
 refine sT 2 80 6 rfl <| sT 3 88 7 rfl <| e1 96 rfl <| keep [2, 3] rfl <| W_ret ?_
 exact out2 2 3 (SV.i (zFold n)) (SV.i 0) (π := []) (hout := []) Tryd.results74 rfl rfl rfl rfl rfl rfl trivial ⟨rfl, rfl⟩
theorem fit_any (x : Int) (h0 : 0 ≤ x) : Spec Tryd.prog GC 75 [SV.i x] [] (fun r ho => r = clsS (cls x) ∧ ho = []) := by
 refine start 18 0 Tryd.func75 rfl rfl rfl rfl ?_
 refine r1 <| sT 2 0 1 rfl <| e1 8 rfl <| keep [0, 2] rfl <| W_seq <| r1 <| sO 5 8 1 rfl <| sT 6 16 2 rfl <| e1 24 rfl <| keep [0, 2, 5, 6] rfl <| W_block ?_
 refine W_unroll 6 ?_
 refine unr ?_
 refine r1 <| sO 7 24 1 rfl <| e1 32 rfl <| keep [0, 2, 5, 6, 7] rfl <| W_seq ?_
 refine q1 rfl (fun hc2 => ?_) (fun hc2 => ?_)
 try simp only [cs, ne_eq] at hc2
 refine W_skip <| tn <| W_seq <| W_block <| r1 ?_
 refine sIdxA 8 32 1 rfl rfl rfl rfl rfl rfl rfl (by decide) ?_
 refine sT 4 40 2 rfl <| s0O 48 3 rfl rfl rfl rfl rfl <| e1 56 rfl <| keep [0, 2, 4, 5, 6] rfl <| r1 <| sT 9 56 1 rfl <| sT 10 64 2 rfl <| sO 11 72 3 rfl ?_
 refine val 11 (SV.i 0) rfl rfl ?_
 refine sV 12 80 4 rfl (by decide) ?_
 refine val 12 (SV.i (x / 2 ^ 0)) rfl (congrArg (fun x => SV.d (D.val (Value.int .i64 x))) (shr_val (k := 0) (q := 0) rfl (by decide))) ?_
 refine sO 13 88 5 rfl <| e1 96 rfl <| keep [0, 2, 4, 5, 6, 13] rfl ?_
 refine q1 rfl (fun hc4 => ?_) (fun hc4 => ?_)
 try simp only [cs, ne_eq] at hc4
 refine r1 <| sO 14 96 1 rfl <| s0O 104 2 rfl rfl rfl rfl rfl <| e1 112 rfl <| keep [2] rfl <| W_ret <| br <| tr <| tr <| br <| tr ?_
 have hcl : cls x = 0 := (by unfold cls; rw [if_pos (by omega)])
 exact outN (clsS (cls x)) (π := []) (hout := []) Tryd.results75 rfl (by trivial) (by rw [hcl]; rfl) rfl rfl trivial ⟨rfl, rfl⟩
 try simp only [cs, ne_eq] at hc4
 refine W_skip <| bn <| tn ?_
 refine r0 ?_
 refine sAO 15 96 1 rfl ?_
 refine val 15 (SV.i 1) rfl rfl ?_
 refine sT 6 104 2 rfl <| e1 112 rfl <| tn ?_
 refine unr ?_
 refine r1 <| sO 7 112 1 rfl <| e1 120 rfl <| keep [0, 2, 5, 6, 7] rfl <| W_seq ?_
 refine q1 rfl (fun hc2 => ?_) (fun hc2 => ?_)
 try simp only [cs, ne_eq] at hc2
 refine W_skip <| tn <| W_seq <| W_block <| r1 ?_
 refine sIdxA 8 120 1 rfl rfl rfl rfl rfl rfl rfl (by decide) ?_
 refine sT 4 128 2 rfl <| s0O 136 3 rfl rfl rfl rfl rfl <| e1 144 rfl <| keep [0, 2, 4, 5, 6] rfl <| r1 <| sT 9 144 1 rfl <| sT 10 152 2 rfl <| sO 11 160 3 rfl ?_
 refine val 11 (SV.i 6) rfl rfl ?_
 refine sV 12 168 4 rfl (by decide) ?_
 refine val 12 (SV.i (x / 2 ^ 6)) rfl (congrArg (fun x => SV.d (D.val (Value.int .i64 x))) (shr_val (k := 6) (q := 6) rfl (by decide))) ?_
 refine sO 13 176 5 rfl <| e1 184 rfl <| keep [0, 2, 4, 5, 6, 13] rfl ?_
 refine q1 rfl (fun hc4 => ?_) (fun hc4 => ?_)
 try simp only [cs, ne_eq] at hc4
 refine r1 <| sO 14 184 1 rfl <| s0O 192 2 rfl rfl rfl rfl rfl <| e1 200 rfl <| keep [2] rfl <| W_ret <| br <| tr <| tr <| br <| tr ?_
 have hcl : cls x = 1 := (by unfold cls; rw [if_neg (by omega)]; rw [if_pos (by omega)])
 exact outN (clsS (cls x)) (π := []) (hout := []) Tryd.results75 rfl (by trivial) (by rw [hcl]; rfl) rfl rfl trivial ⟨rfl, rfl⟩
 try simp only [cs, ne_eq] at hc4
 refine W_skip <| bn <| tn ?_
 refine r0 ?_
 refine sAO 15 184 1 rfl ?_
 refine val 15 (SV.i 2) rfl rfl ?_
 refine sT 6 192 2 rfl <| e1 200 rfl <| tn ?_
 refine unr ?_
 refine r1 <| sO 7 200 1 rfl <| e1 208 rfl <| keep [0, 2, 5, 6, 7] rfl <| W_seq ?_
 refine q1 rfl (fun hc2 => ?_) (fun hc2 => ?_)
 try simp only [cs, ne_eq] at hc2
 refine W_skip <| tn <| W_seq <| W_block <| r1 ?_
 refine sIdxA 8 208 1 rfl rfl rfl rfl rfl rfl rfl (by decide) ?_
 refine sT 4 216 2 rfl <| s0O 224 3 rfl rfl rfl rfl rfl <| e1 232 rfl <| keep [0, 2, 4, 5, 6] rfl <| r1 <| sT 9 232 1 rfl <| sT 10 240 2 rfl <| sO 11 248 3 rfl ?_
 refine val 11 (SV.i 12) rfl rfl ?_
 refine sV 12 256 4 rfl (by decide) ?_
 refine val 12 (SV.i (x / 2 ^ 12)) rfl (congrArg (fun x => SV.d (D.val (Value.int .i64 x))) (shr_val (k := 12) (q := 12) rfl (by decide))) ?_
 refine sO 13 264 5 rfl <| e1 272 rfl <| keep [0, 2, 4, 5, 6, 13] rfl ?_
 refine q1 rfl (fun hc4 => ?_) (fun hc4 => ?_)
 try simp only [cs, ne_eq] at hc4
 refine r1 <| sO 14 272 1 rfl <| s0O 280 2 rfl rfl rfl rfl rfl <| e1 288 rfl <| keep [2] rfl <| W_ret <| br <| tr <| tr <| br <| tr ?_
 have hcl : cls x = 2 := (by unfold cls; rw [if_neg (by omega)]; rw [if_neg (by omega)]; rw [if_pos (by omega)])
 exact outN (clsS (cls x)) (π := []) (hout := []) Tryd.results75 rfl (by trivial) (by rw [hcl]; rfl) rfl rfl trivial ⟨rfl, rfl⟩
 try simp only [cs, ne_eq] at hc4
 refine W_skip <| bn <| tn ?_
 refine r0 ?_
 refine sAO 15 272 1 rfl ?_
 refine val 15 (SV.i 3) rfl rfl ?_
 refine sT 6 280 2 rfl <| e1 288 rfl <| tn ?_
 refine unr ?_
 refine r1 <| sO 7 288 1 rfl <| e1 296 rfl <| keep [0, 2, 5, 6, 7] rfl <| W_seq ?_
 refine q1 rfl (fun hc2 => ?_) (fun hc2 => ?_)
 try simp only [cs, ne_eq] at hc2
 refine W_skip <| tn <| W_seq <| W_block <| r1 ?_
 refine sIdxA 8 296 1 rfl rfl rfl rfl rfl rfl rfl (by decide) ?_
 refine sT 4 304 2 rfl <| s0O 312 3 rfl rfl rfl rfl rfl <| e1 320 rfl <| keep [0, 2, 4, 5, 6] rfl <| r1 <| sT 9 320 1 rfl <| sT 10 328 2 rfl <| sO 11 336 3 rfl ?_
 refine val 11 (SV.i 24) rfl rfl ?_
 refine sV 12 344 4 rfl (by decide) ?_
 refine val 12 (SV.i (x / 2 ^ 24)) rfl (congrArg (fun x => SV.d (D.val (Value.int .i64 x))) (shr_val (k := 24) (q := 24) rfl (by decide))) ?_
 refine sO 13 352 5 rfl <| e1 360 rfl <| keep [0, 2, 4, 5, 6, 13] rfl ?_
 refine q1 rfl (fun hc4 => ?_) (fun hc4 => ?_)
 try simp only [cs, ne_eq] at hc4
 refine r1 <| sO 14 360 1 rfl <| s0O 368 2 rfl rfl rfl rfl rfl <| e1 376 rfl <| keep [2] rfl <| W_ret <| br <| tr <| tr <| br <| tr ?_
 have hcl : cls x = 3 := (by unfold cls; rw [if_neg (by omega)]; rw [if_neg (by omega)]; rw [if_neg (by omega)]; rw [if_pos (by omega)])
 exact outN (clsS (cls x)) (π := []) (hout := []) Tryd.results75 rfl (by trivial) (by rw [hcl]; rfl) rfl rfl trivial ⟨rfl, rfl⟩
 try simp only [cs, ne_eq] at hc4
 refine W_skip <| bn <| tn ?_
 refine r0 ?_
 refine sAO 15 360 1 rfl ?_
 refine val 15 (SV.i 4) rfl rfl ?_
 refine sT 6 368 2 rfl <| e1 376 rfl <| tn ?_
 refine unr ?_
 refine r1 <| sO 7 376 1 rfl <| e1 384 rfl <| keep [0, 2, 5, 6, 7] rfl <| W_seq ?_
 refine q1 rfl (fun hc2 => ?_) (fun hc2 => ?_)
 try simp only [cs, ne_eq] at hc2
 refine W_skip <| tn <| W_seq <| W_block <| r1 ?_
 refine sIdxA 8 384 1 rfl rfl rfl rfl rfl rfl rfl (by decide) ?_
 refine sT 4 392 2 rfl <| s0O 400 3 rfl rfl rfl rfl rfl <| e1 408 rfl <| keep [0, 2, 4, 5, 6] rfl <| r1 <| sT 9 408 1 rfl <| sT 10 416 2 rfl <| sO 11 424 3 rfl ?_
 refine val 11 (SV.i 59) rfl rfl ?_
 refine sV 12 432 4 rfl (by decide) ?_
 refine val 12 (SV.i (x / 2 ^ 59)) rfl (congrArg (fun x => SV.d (D.val (Value.int .i64 x))) (shr_val (k := 59) (q := 59) rfl (by decide))) ?_
 refine sO 13 440 5 rfl <| e1 448 rfl <| keep [0, 2, 4, 5, 6, 13] rfl ?_
 refine q1 rfl (fun hc4 => ?_) (fun hc4 => ?_)
 try simp only [cs, ne_eq] at hc4
 refine r1 <| sO 14 448 1 rfl <| s0O 456 2 rfl rfl rfl rfl rfl <| e1 464 rfl <| keep [2] rfl <| W_ret <| br <| tr <| tr <| br <| tr ?_
 have hcl : cls x = 4 := (by unfold cls; rw [if_neg (by omega)]; rw [if_neg (by omega)]; rw [if_neg (by omega)]; rw [if_neg (by omega)])
 exact outN (clsS (cls x)) (π := []) (hout := []) Tryd.results75 rfl (by trivial) (by rw [hcl]; rfl) rfl rfl trivial ⟨rfl, rfl⟩
 try simp only [cs, ne_eq] at hc4
 refine W_skip <| bn <| tn ?_
 refine r0 ?_
 refine sAO 15 448 1 rfl ?_
 refine val 15 (SV.i 5) rfl rfl ?_
 refine sT 6 456 2 rfl <| e1 464 rfl <| tn ?_
 refine unr ?_
 refine r1 <| sO 7 464 1 rfl <| e1 472 rfl <| keep [0, 2, 5, 6, 7] rfl <| W_seq ?_
 refine q1 rfl (fun hc2 => ?_) (fun hc2 => ?_)
 exact absurd hc2 (by decide)
 try simp only [cs, ne_eq] at hc2
 refine W_exit <| tx <| tx <| bx <| tn <| r1 ?_
 refine sV 16 472 1 rfl (by decide) ?_
 refine sV 17 480 2 rfl (by decide) ?_
 refine s0O 488 3 rfl rfl rfl rfl rfl <| e1 496 rfl <| keep [2] rfl <| W_ret ?_
 have hcl : cls x = 4 := (by unfold cls; rw [if_neg (by omega)]; rw [if_neg (by omega)]; rw [if_neg (by omega)]; rw [if_neg (by omega)])
 exact outN (clsS (cls x)) (π := []) (hout := []) Tryd.results75 rfl (by trivial) (by rw [hcl]; rfl) rfl rfl trivial ⟨rfl, rfl⟩
 exact absurd hc2 (by decide)
 exact absurd hc2 (by decide)
 exact absurd hc2 (by decide)
 exact absurd hc2 (by decide)
 exact absurd hc2 (by decide)
theorem zput_any (L : List Int) (hL : AllBits L) (hlen : L.length ≤ 900000) (n : Int) (h : isSm n) : Spec Tryd.prog GC 33 [.ptr 0 0 0, SV.i n] [.cells 65 2 [.sl 1 0 (pack L).length, SV.i L.length], .rows 5 1 (pack L).length (u8F (pack L))] (fun r ho => r = SV.tup [] ∧ ho = [some (.cells 65 2 [.sl 2 0 (pack (zput L n)).length, SV.i (zput L n).length]), none, some (.rows 5 1 (pack (zput L n)).length (u8F (pack (zput L n))))]) := by
 have hz := zFold_bd n h.1 h.2
 refine start 25 2 Tryd.func33 rfl rfl rfl rfl ?_
 refine r1 <| sT 8 2 1 rfl ?_
 refine c1 (fold_any n h) [] [] 9 10 2 rfl rfl rfl rfl rfl rfl rfl rfl Tryd.func74 rfl rfl rfl rfl trivial rfl rfl ?_
 refine sT 7 18 3 rfl <| sT 10 26 4 rfl <| sT 11 34 5 rfl <| sT 4 42 6 rfl <| sT 5 50 7 rfl <| e1 58 rfl <| keep [0, 4] rfl <| r1 <| sT 12 58 1 rfl ?_
 refine c1 (fit_any (zFold n) hz.1) [] [] 13 66 2 rfl rfl rfl rfl rfl rfl rfl rfl Tryd.func75 rfl rfl rfl rfl trivial rfl rfl ?_
 refine sT 6 74 3 rfl <| s0O 82 4 rfl rfl rfl rfl rfl <| e1 90 rfl <| keep [0, 4, 6] rfl <| r1 <| sT 14 90 1 rfl <| sT 15 98 2 rfl <| sO 16 106 3 rfl <| sT 17 114 4 rfl <| sO 18 122 5 rfl ?_
 refine c1 (put_any L hL (by omega) (clW (cls (zFold n))) (clH (cls (zFold n))) (clW_le _) (clH_in _)) [0, 1] [0, 1, 130] 19 130 6 rfl rfl rfl rfl rfl rfl rfl rfl Tryd.func30 rfl rfl rfl rfl ⟨rfl, rfl, trivial⟩ rfl rfl ?_
 refine e1 138 rfl <| keep [0, 4, 6] rfl ?_
 refine r0 ?_
 refine sT 20 138 1 rfl <| sT 21 146 2 rfl <| sO 22 154 3 rfl <| sT 23 162 4 rfl ?_
 refine c1 (put_any (L ++ bitsOf (clW (cls (zFold n))) (clH (cls (zFold n)))) (hL.append (bitsOf_bits _ _)) (by rw [List.length_append, bitsOf_length]; have := clW_le (cls (zFold n)); omega) (clB (cls (zFold n))) (zFold n) (clB_le _) ⟨by omega, by omega⟩) [0, 130] [0, 130, 170] 24 170 5 rfl rfl rfl rfl rfl rfl rfl rfl Tryd.func30 rfl rfl rfl rfl ⟨rfl, rfl, trivial⟩ rfl rfl ?_
 refine e1 178 rfl ?_
 exact out0 (π := [0, 1, 170]) (hout := [some (.cells 65 2 [.sl 2 0 (pack (zput L n)).length, SV.i (zput L n).length]), none, some (.rows 5 1 (pack (zput L n)).length (u8F (pack (zput L n))))]) Tryd.results33 rfl rfl ⟨rfl, rfl, trivial⟩ ⟨rfl, rfl⟩
theorem bytes_any (L : List Int) : Spec Tryd.prog GC 35 [.ptr 0 0 0] [.cells 65 2 [.sl 1 0 (pack L).length, SV.i L.length], .rows 5 1 (pack L).length (u8F (pack L))] (fun r ho => r = .sl 1 0 (pack L).length ∧ ho = [some (.cells 65 2 [.sl 1 0 (pack L).length, SV.i L.length]), some (.rows 5 1 (pack L).length (u8F (pack L)))]) := by
 refine start 7 2 Tryd.func35 rfl rfl rfl rfl ?_
 refine r1 <| sT 2 2 1 rfl <| e1 10 rfl <| keep [0] rfl <| r1 <| sT 3 10 1 rfl <| sT 4 18 2 rfl <| sT 5 26 3 rfl <| sO 6 34 4 rfl <| sT 2 42 5 rfl <| e1 50 rfl <| keep [2] rfl <| W_ret ?_
 exact out1 2 (.sl 1 0 (pack L).length) (π := [0, 1]) (hout := [some (.cells 65 2 [.sl 1 0 (pack L).length, SV.i L.length]), some (.rows 5 1 (pack L).length (u8F (pack L)))]) Tryd.results35 rfl rfl rfl rfl ⟨rfl, rfl, trivial⟩ ⟨rfl, rfl⟩
end Go.Proofs.YtpdojmebloekgaaDoor.Nice.Co
namespace Go.Proofs.YtpdojmebloekgaaDoor
open Go Go.RowKit
set_option linter.unusedVariables false
def ClassesAt (w : World) : Prop := ∃ (t : TypeId) (fr : Nat × Nat), w.heap[(0 : Nat)]? = some (.cells #[.int .i64 0, .int .i64 1, .int .i64 0, .int .i64 2, .int .i64 2, .int .i64 6, .int .i64 6, .int .i64 3, .int .i64 12, .int .i64 14, .int .i64 4, .int .i64 24, .int .i64 15, .int .i64 4, .int .i64 59] t fr)
theorem rows_cell {H : Type} {enc : TypeId × Value → H} {P : Program} {w : World} {base : Nat} {sp : Nat → Bool} {held : Bool} {fuel : Nat} {t e : TypeId} {n m : Nat} {fs : Array Field} {cs : List Value} {rows : List (DataW H)} {p : List MemPlace}
   (ht : P.underlying t = some (.array n e)) (he : P.underlying e = some (.struct fs)) (hce : P.cellsOf e = m)
   (h : DataW.trod enc P w base sp held fuel t cs = some (.agg rows, p)) (i j : Nat) (f : Field) (r : List (DataW H)) (z : Int) (hi : i < n) (hr : rows[i]? = some (.agg r)) (hj : fs[j]? = some f) (hoff : f.offset = j) (hft : P.underlying f.type = some (.int .i64)) (hfc : P.cellsOf f.type = 1) (hjm : j < m)
   (hz : r[j]? = some (.lit (.int .i64 z))) : cs[i * m + j]? = some (.int .i64 z) := by
 obtain ⟨xs, k, _, hx, _, hxl, hel⟩ := DataW.trod_array ht h
 have h1 := hel i hi
 rw [hce] at h1
 have hxi : xs[i]? = some (xs[i]'(by omega)) := List.getElem?_eq_getElem (by omega)
 rw [hxi] at h1
 have hx1 := (Prod.mk.inj hx).1
 injection hx1 with hx1
 have hri : (xs.map (·.1))[i]? = some (.agg r) := by rw [← hx1]; exact hr
 rw [List.getElem?_map, hxi] at hri
 simp only [Option.map_some, Option.some.injEq] at hri
 obtain ⟨ys, k2, _, hy, _, hyl, hf⟩ := DataW.trod_struct he h1
 have h2 := hf j f hj
 rw [hoff, hfc] at h2
 have hys : j < ys.length := by rw [hyl]; exact (Array.getElem?_eq_some_iff.1 hj).1
 have hyj : ys[j]? = some (ys[j]'hys) := List.getElem?_eq_getElem hys
 rw [hyj] at h2
 obtain ⟨z', hcz, hyz, _⟩ := DataW.trod_int hft h2
 have hagg : DataW.agg (ys.map (·.1)) = .agg r := by
   have := congrArg Prod.fst hy
   rw [← hri]; exact this.symm
 injection hagg with hagg
 have hrj : (ys.map (·.1))[j]? = some (.lit (.int .i64 z)) := by rw [hagg]; exact hz
 rw [List.getElem?_map, hyj] at hrj
 simp only [Option.map_some, Option.some.injEq] at hrj
 have hzz : z' = z := by
   have : (ys[j]'hys).1 = .lit (.int .i64 z') := by rw [hyz]
   rw [this] at hrj
   injection hrj with hrj
   injection hrj
 subst hzz
 have h3 := congrArg (·[0]?) hcz
 simp only [List.getElem?_take, List.getElem?_drop] at h3
 simpa [hjm] using h3
set_option maxRecDepth 100000 in
theorem classesAt_of {W : World} (h : laidMetH Tryd.prog [("barograph/zig.classes", Rows.laid_barograph_zig_classes)] W) : ClassesAt W := by
 have h' : laidMet Tryd.prog [("barograph/zig.classes", Rows.laid_barograph_zig_classes)] W := h
 obtain ⟨ps, ⟨g', t', cs, fuel, p, q, hg', ht', hvar, hd, _, _⟩, _⟩ := h'
 have hg : Tryd.prog.globalNamed "barograph/zig.classes" = some 0 := by kernel_rfl
 have hty : (Tryd.prog.globals[(0 : Nat)]?).map (·.type) = some 128 := by kernel_rfl
 obtain rfl := Option.some.inj (hg.symm.trans hg')
 obtain rfl := Option.some.inj (hty.symm.trans ht')
 have hcl : cs.toList.length = 15 := by
   obtain ⟨_, _, _, _, hl, _, _⟩ := DataW.trod_array Tryd.underlying128 hd
   rw [hl]; kernel_rfl
 have key := fun i j f r z hi hr hj hoff hft hfc hjm hz => rows_cell (m := 3) Tryd.underlying128 Tryd.underlying124 (by kernel_rfl) hd i j f r z hi hr hj hoff hft hfc hjm hz
 have u3 := Tryd.underlying3
 have c3 : Tryd.prog.cellsOf 3 = 1 := by kernel_rfl
 have k0 : cs.toList[0]? = some (.int .i64 0) := key 0 0 _ _ 0 (by decide) rfl rfl rfl u3 c3 (by decide) rfl
 have k1 : cs.toList[1]? = some (.int .i64 1) := key 0 1 _ _ 1 (by decide) rfl rfl rfl u3 c3 (by decide) rfl
 have k2 : cs.toList[2]? = some (.int .i64 0) := key 0 2 _ _ 0 (by decide) rfl rfl rfl u3 c3 (by decide) rfl
 have k3 : cs.toList[3]? = some (.int .i64 2) := key 1 0 _ _ 2 (by decide) rfl rfl rfl u3 c3 (by decide) rfl
 have k4 : cs.toList[4]? = some (.int .i64 2) := key 1 1 _ _ 2 (by decide) rfl rfl rfl u3 c3 (by decide) rfl
 have k5 : cs.toList[5]? = some (.int .i64 6) := key 1 2 _ _ 6 (by decide) rfl rfl rfl u3 c3 (by decide) rfl
 have k6 : cs.toList[6]? = some (.int .i64 6) := key 2 0 _ _ 6 (by decide) rfl rfl rfl u3 c3 (by decide) rfl
 have k7 : cs.toList[7]? = some (.int .i64 3) := key 2 1 _ _ 3 (by decide) rfl rfl rfl u3 c3 (by decide) rfl
 have k8 : cs.toList[8]? = some (.int .i64 12) := key 2 2 _ _ 12 (by decide) rfl rfl rfl u3 c3 (by decide) rfl
 have k9 : cs.toList[9]? = some (.int .i64 14) := key 3 0 _ _ 14 (by decide) rfl rfl rfl u3 c3 (by decide) rfl
 have k10 : cs.toList[10]? = some (.int .i64 4) := key 3 1 _ _ 4 (by decide) rfl rfl rfl u3 c3 (by decide) rfl
 have k11 : cs.toList[11]? = some (.int .i64 24) := key 3 2 _ _ 24 (by decide) rfl rfl rfl u3 c3 (by decide) rfl
 have k12 : cs.toList[12]? = some (.int .i64 15) := key 4 0 _ _ 15 (by decide) rfl rfl rfl u3 c3 (by decide) rfl
 have k13 : cs.toList[13]? = some (.int .i64 4) := key 4 1 _ _ 4 (by decide) rfl rfl rfl u3 c3 (by decide) rfl
 have k14 : cs.toList[14]? = some (.int .i64 59) := key 4 2 _ _ 59 (by decide) rfl rfl rfl u3 c3 (by decide) rfl
 have hcs : cs.toList = [.int .i64 0, .int .i64 1, .int .i64 0, .int .i64 2, .int .i64 2, .int .i64 6, .int .i64 6, .int .i64 3, .int .i64 12, .int .i64 14, .int .i64 4, .int .i64 24, .int .i64 15, .int .i64 4, .int .i64 59] := by
   apply List.ext_getElem?
   intro i
   rcases Nat.lt_or_ge i 15 with hi | hi
   · have : i = 0 ∨ i = 1 ∨ i = 2 ∨ i = 3 ∨ i = 4 ∨ i = 5 ∨ i = 6 ∨ i = 7 ∨ i = 8 ∨ i = 9 ∨ i = 10 ∨ i = 11 ∨ i = 12 ∨ i = 13 ∨ i = 14 := by omega
     rcases this with rfl | rfl | rfl | rfl | rfl | rfl | rfl | rfl | rfl | rfl | rfl | rfl | rfl | rfl | rfl
     · exact k0
     · exact k1
     · exact k2
     · exact k3
     · exact k4
     · exact k5
     · exact k6
     · exact k7
     · exact k8
     · exact k9
     · exact k10
     · exact k11
     · exact k12
     · exact k13
     · exact k14
   · rw [List.getElem?_eq_none (by omega), List.getElem?_eq_none (by simpa using hi)]
 simp only [World.var?, hg, Option.bind_some] at hvar
 split at hvar
 · rename_i cs' t fr he
   simp only [Option.some.injEq] at hvar
   refine ⟨t, fr, ?_⟩
   rw [he, hvar, ← Array.toArray_toList (xs := cs), hcs]
 · cases hvar
theorem classes_G {W : World} (h : ClassesAt W) : ∀ g ρ, Nice.VR (fun b => W.heap[b]?) ρ (Nice.Co.GC g) (.pointer (some ⟨g, 0, none⟩)) := by
 intro g ρ
 by_cases hg : g = 0
 · subst hg
   obtain ⟨T, fz, hb⟩ := h
   have key : ∀ c, c < 15 → (#[.int .i64 0, .int .i64 1, .int .i64 0, .int .i64 2, .int .i64 2, .int .i64 6, .int .i64 6, .int .i64 3, .int .i64 12, .int .i64 14, .int .i64 4, .int .i64 24, .int .i64 15, .int .i64 4, .int .i64 59] : Array Value)[c]? = some (.int .i64 (Nice.Co.clL.getD c 0)) := by
     intro c hc
     have : c = 0 ∨ c = 1 ∨ c = 2 ∨ c = 3 ∨ c = 4 ∨ c = 5 ∨ c = 6 ∨ c = 7 ∨ c = 8 ∨ c = 9 ∨ c = 10 ∨ c = 11 ∨ c = 12 ∨ c = 13 ∨ c = 14 := by omega
     rcases this with rfl | rfl | rfl | rfl | rfl | rfl | rfl | rfl | rfl | rfl | rfl | rfl | rfl | rfl | rfl <;> rfl
   refine .vp 15 1 Nice.Co.clF 0 0 0 0 _ T fz (fun i c => .int .i64 (Nice.Co.clL.getD c 0)) hb (fun i c hi hc => ?_) (fun i c hi hc => .val _ rfl)
   obtain rfl : i = 0 := by omega
   rw [show 0 + 0 * 15 + c = c by omega]; exact key c hc
 · have : Nice.Co.GC g = .any := by
     unfold Nice.Co.GC
     split
     · exact absurd rfl hg
     · rfl
   rw [this]; exact .any _
end Go.Proofs.YtpdojmebloekgaaDoor
namespace Go.Proofs.YtpdojmebloekgaaDoor.Nice
open Go
set_option linter.unusedVariables false
theorem conv_none {P : Program} (w : World) (src dst e : TypeId) (l c : Nat) (hs : P.underlying src = some (.slice e)) (he : P.underlying e = some (.int .u8)) (hd : P.underlying dst = some .string) :
   (convert src dst (.slice none l c)).run P w = .ok (.string .empty) w := by
 rw [run_convert_bytes_string w src dst e none l c hs he hd]
 simp [Conv.bytesToString, Sem.run_pure]
theorem sStr {C : Ctx} {ops : List Oper} {i : Nat} {o : Oper} {l : List Oper} {t : Nat → SV} {h : Heap} {nx : Nat} {K : St → Prop} {src dst e : TypeId} {y : Operand} {len : Nat} {f : Nat → Nat → D} (L : List UInt8) (d nm i' : Nat) (hi : i + 1 = i') (hnm : nx + 8 * i = nm) (hg : o.guard = none) (hdst : o.dst = some d) (hd : Nat.blt d C.sz = true) (ho : o.op = .convert src dst y)
   (hs : C.P.underlying src = some (.slice e)) (he : C.P.underlying e = some (.int .u8)) (hds : C.P.underlying dst = some .string)
   (hy : (opv C t y).hd = some (.d (.vec 1 len f))) (hlen : len = L.length) (hf : ∀ (j : Nat) (hj : j < L.length), f j 0 = .val (.int .u8 (L[j].toNat : Int)))
   (k : wops C ops i' l ⟨upd t d (.d (.val (.string ⟨L.toArray⟩))), h, nx⟩ none K) : wops C ops i (o :: l) ⟨t, h, nx⟩ none K := by
 subst hi; subst hnm; subst hlen
 have hok : OpOK C o (nx + 8 * i) (opv C t) [] (fun x z => x = .d (.val (.string ⟨L.toArray⟩)) ∧ z = []) := by
   refine ok_pure fun M F ρ a hh w hv hH _ => ⟨.string ⟨L.toArray⟩, ?_, .d _ _ (.val _ rfl)⟩
   have e1 := hv y (by rw [ho]; simp [Op.operands]); rw [SV.hd_eq hy] at e1
   have : (convert src dst (a.eval y)).run C.P w = .ok (.string ⟨L.toArray⟩) w := by
     generalize a.eval y = q at e1
     cases e1 with
     | d _ _ hD =>
       generalize hLn : L.length = n at hD
       cases hD with
       | vec0 _ _ ad cap =>
         have : L = [] := List.length_eq_zero_iff.1 hLn
         subst this
         cases ad with
         | none => exact conv_none w src dst e _ _ hs he hds
         | some x => exact run_convert_bytes_back w src dst e x cap [] hs he hds (fun j hj => by simp at hj)
       | vec _ _ _ b oo cap cur T fz g hb hc hgg hr =>
         subst hLn
         refine run_convert_bytes_back w src dst e ⟨b, oo, none⟩ cap L hs he hds fun j hj => ?_
         have h1 := hgg j 0 hj (by omega)
         have h2 := hr j 0 hj (by omega)
         rw [hf j hj] at h2
         generalize hgq : g j 0 = gq at h1 h2
         cases h2
         have h3 := hH.imm b _ hb
         have ea : (⟨b, oo, none⟩ : Addr).add j = ⟨b, oo + j, none⟩ := by unfold Addr.add; split <;> simp_all
         rw [ea]
         unfold World.cell?
         simp only [h3]
         simpa using h1
   unfold execOp
   simp only [ho, Sem.run_bind, this, Result.andThen_ok, Sem.run_pure]
 refine st_ok (σ := ⟨t, h, nx⟩) hg (by unfold dstOK; rw [hdst]; exact hd) hok (fun p hp => by simp at hp) rfl ?_
 unfold St.app; rw [hdst]; exact k
theorem OpOK.weaken {C : Ctx} {o : Oper} {nm : Nat} {v : Operand → SV} {bs : List (Nat × Blk)} {u u' : SV} {wr : List (Nat × Option Blk)} (h : OpOK C o nm v bs (fun x y => x = u ∧ y = wr)) (hw : ∀ M ρ z, VR M ρ u z → VR M ρ u' z) : OpOK C o nm v bs (fun x y => x = u' ∧ y = wr) :=
 fun M F ρ a hh w hv hG hH hbs hfr K Q hK => h M F ρ a hh w hv hG hH hbs hfr K Q fun M' ρ' x y z w' a1 a2 a3 e a5 a6 a7 => hK M' ρ' u' y z w' a1 a2 a3 ⟨rfl, e.2⟩ (hw _ _ _ (e.1 ▸ a5)) a6 a7
section
variable {C : Ctx} {ops : List Oper} {i : Nat} {o : Oper} {l : List Oper} {t : Nat → SV} {h h' : Heap} {nx : Nat} {K : St → Prop} {vc : Prop} {bs : List (Nat × Blk)} {u : SV} {wr : List (Nat × Option Blk)} {acc : List FP}
theorem s1w (u' : SV) (d nm i' : Nat) (hi : i + 1 = i') (hnm : nx + 8 * i = nm) (hg : o.guard = none) (hdst : o.dst = some d) (hd : Nat.blt d C.sz = true) (e : sopH C nm o (opv C t) h = some (vc, bs, u, wr, h')) (hvc : vc) (hw : ∀ M ρ z, VR M ρ u z → VR M ρ u' z)
   (k : wops C ops i' l ⟨upd t d u', h', nx⟩ none K) : wops C ops i (o :: l) ⟨t, h, nx⟩ none K := by
 subst hi; subst hnm
 obtain ⟨e1, e2⟩ := sopH_eq e
 obtain ⟨h1, h2, h3⟩ := sop_ok e1 hvc
 refine st_ok (σ := ⟨t, h, nx⟩) hg (by unfold dstOK; rw [hdst]; exact hd) (h1.weaken hw) h2 h3 ?_
 unfold St.app; rw [hdst, e2]; exact k
theorem d1w (u' : SV) (d nm i' : Nat) (hi : i + 1 = i') (hnm : nx + 8 * i = nm) (hg : o.guard = none) (hdst : o.dst = some d) (hd : Nat.blt d C.sz = true) (e : sopH C nm o (opv C t) h = some (vc, bs, u, wr, h')) (hvc : vc) (hw : ∀ M ρ z, VR M ρ u z → VR M ρ u' z)
   (k : wops C ops i' l ⟨upd t d u', h', nx⟩ (some (acc ++ [(bs.map (·.1), wr.map (·.1))])) K) : wops C ops i (o :: l) ⟨t, h, nx⟩ (some acc) K := by
 subst hi; subst hnm
 obtain ⟨e1, e2⟩ := sopH_eq e
 obtain ⟨h1, h2, h3⟩ := sop_ok e1 hvc
 refine st_ok (σ := ⟨t, h, nx⟩) hg (by unfold dstOK; rw [hdst]; exact hd) (h1.weaken hw) h2 h3 ?_
 unfold St.app; rw [hdst, e2]; exact k
end
theorem VR.rowed {M : Imm} {ρ : Names} {f : Nat → Nat → D} {K k n q c : Nat} {z : Value} (hc : c = q * k) (hK : n * k ≤ K) (h : VR M ρ (.vp K 1 f 0 c) z) : VR M ρ (.vp k n (fun i j => f 0 (i * k + j)) q 0) z := by
 subst hc
 cases h with
 | vp _ _ _ _ _ b o cur T fz g hb hg hr =>
   have lt : ∀ i j, i < n → j < k → i * k + j < K := fun i j hi hj => by
     have h1 : (i + 1) * k ≤ n * k := Nat.mul_le_mul_right k hi
     rw [Nat.succ_mul] at h1; omega
   have := VR.vp (ρ := ρ) k n (fun i j => f 0 (i * k + j)) q 0 b o cur T fz (fun i j => g 0 (i * k + j)) hb (fun i j hi hj => by
     have := hg 0 (i * k + j) (by decide) (lt i j hi hj)
     rw [← this]; congr 1; omega) (fun i j hi hj => hr 0 (i * k + j) (by decide) (lt i j hi hj))
   rw [show o + 0 * K + q * k = o + q * k + 0 by omega]; exact this
end Go.Proofs.YtpdojmebloekgaaDoor.Nice
namespace Go.Proofs.YtpdojmebloekgaaDoor.Nice.Co
open Go Go.Conc
set_option linter.unusedVariables false
set_option linter.unusedSimpArgs false
theorem OpOK.weaken {C : Ctx} {o : Oper} {nm : Nat} {v : Operand → SV} {bs : List (Nat × Blk)} {u u' : SV} {wr : List (Nat × Option Blk)} (h : OpOK C o nm v bs (fun x y => x = u ∧ y = wr)) (hw : ∀ M ρ z, VR M ρ u z → VR M ρ u' z) : OpOK C o nm v bs (fun x y => x = u' ∧ y = wr) :=
 fun K A F M ρ a hh w h0 hv hG hH hbs hfr gd b ops i rest k cs hoi hwt hb hK => h K A F M ρ a hh w h0 hv hG hH hbs hfr gd b ops i rest k cs hoi hwt hb fun A' M' ρ' x y z w' a0 a1 a2 a3 e a5 a6 a7 a8 => hK A' M' ρ' u' y z w' a0 a1 a2 a3 ⟨rfl, e.2⟩ (hw _ _ _ (e.1 ▸ a5)) a6 a7 a8
section
variable {C : Ctx} {ops : List Oper} {i : Nat} {o : Oper} {l : List Oper} {t : Nat → SV} {h h' : Heap} {nx : Nat} {K : St → Prop} {vc : Prop} {bs : List (Nat × Blk)} {u : SV} {wr : List (Nat × Option Blk)} {acc : List FP}
theorem s1w (u' : SV) (d nm i' : Nat) (hi : i + 1 = i') (hnm : nx + 8 * i = nm) (hg : o.guard = none) (hdst : o.dst = some d) (hd : Nat.blt d C.sz = true) (e : sopH C nm o (opv C t) h = some (vc, bs, u, wr, h')) (hvc : vc) (hw : ∀ M ρ z, VR M ρ u z → VR M ρ u' z)
   (k : wops C ops i' l ⟨upd t d u', h', nx⟩ none K) : wops C ops i (o :: l) ⟨t, h, nx⟩ none K := by
 subst hi; subst hnm
 obtain ⟨e1, e2⟩ := sopH_eq e
 obtain ⟨h1, h2, h3⟩ := sopC_ok e1 hvc
 refine st_ok (σ := ⟨t, h, nx⟩) hg (by unfold dstOK; rw [hdst]; exact hd) (h1.weaken hw) h2 h3 ?_
 unfold St.app; rw [hdst, e2]; exact k
theorem d1w (u' : SV) (d nm i' : Nat) (hi : i + 1 = i') (hnm : nx + 8 * i = nm) (hg : o.guard = none) (hdst : o.dst = some d) (hd : Nat.blt d C.sz = true) (e : sopH C nm o (opv C t) h = some (vc, bs, u, wr, h')) (hvc : vc) (hw : ∀ M ρ z, VR M ρ u z → VR M ρ u' z)
   (k : wops C ops i' l ⟨upd t d u', h', nx⟩ (some (acc ++ [(bs.map (·.1), wr.map (·.1))])) K) : wops C ops i (o :: l) ⟨t, h, nx⟩ (some acc) K := by
 subst hi; subst hnm
 obtain ⟨e1, e2⟩ := sopH_eq e
 obtain ⟨h1, h2, h3⟩ := sopC_ok e1 hvc
 refine st_ok (σ := ⟨t, h, nx⟩) hg (by unfold dstOK; rw [hdst]; exact hd) (h1.weaken hw) h2 h3 ?_
 unfold St.app; rw [hdst, e2]; exact k
end
end Go.Proofs.YtpdojmebloekgaaDoor.Nice.Co
