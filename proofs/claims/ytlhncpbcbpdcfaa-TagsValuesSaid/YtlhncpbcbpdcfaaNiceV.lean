/- Interfaces, method values, calls that come to a function by another way, slots told anew where a block is laid still. -/
import Derived.Test.YtlhncpbcbpdcfaaNiceU
namespace Go.Proofs.Ytlhncpbcbpdcfaa.Nice
open Go
set_option linter.unusedVariables false
set_option linter.unusedSimpArgs false

def notIface : TypeDesc → Bool
  | .interface _ => false
  | _ => true

theorem pr_case {M : Imm} {ρ : Names} {p : MP} {v : Value} (h : VR M ρ (.d (.pr p)) v) : p.p M v := by
  cases h with | d _ _ h => cases h with | pr _ _ h => exact h
theorem pr_mk {M : Imm} {ρ : Names} {p : MP} {v : Value} (h : p.p M v) : VR M ρ (.d (.pr p)) v := .d _ _ (.pr _ _ h)

theorem ifc_ok {C : Ctx} {o : Oper} {nm : Nat} {v : Operand → SV} {T : TypeId} {y : Operand} {td : TypeDesc} {u : SV} (ho : o.op = .makeInterface T y) (ht : C.P.underlying T = some td) (hn : notIface td = true) (hw : ∀ M ρ x, VR M ρ (v y) x → VR M ρ u (.iface T x)) :
    OpOK C o nm v [] (fun x z => x = u ∧ z = []) := by
  refine ok_pure fun M F ρ a h w hv hH hbs => ⟨.iface T (a.eval y), ?_, hw _ _ _ (hv y (by rw [ho]; simp [Op.operands]))⟩
  have : (Instr.makeInterface T (a.eval y)).run C.P w = .ok (.iface T (a.eval y)) w := by
    simp only [Instr.makeInterface, Sem.run_bind, run_underlying ht, Result.andThen_ok]
    cases td <;> first | (simp [notIface] at hn; done) | rfl
  simp only [execOp, ho, Sem.run_bind, this, Result.andThen_ok, Sem.run_pure]
theorem assert_ok {C : Ctx} {o : Oper} {nm : Nat} {v : Operand → SV} {T T' : TypeId} {y : Operand} {td : TypeDesc} {u : SV} (ho : o.op = .typeAssert y T' T false) (ht : C.P.underlying T = some td) (hn : notIface td = true) (hw : ∀ M ρ x, VR M ρ (v y) x → ∃ z, x = .iface T z ∧ VR M ρ u z) :
    OpOK C o nm v [] (fun x z => x = u ∧ z = []) := by
  refine ok_pure fun M F ρ a h w hv hH hbs => ?_
  obtain ⟨z, hz, hr⟩ := hw _ _ _ (hv y (by rw [ho]; simp [Op.operands]))
  refine ⟨z, ?_, hr⟩
  have : (Instr.typeAssert (.iface T z) T' T false).run C.P w = .ok z w := by
    simp only [Instr.typeAssert, Sem.run_bind, run_underlying ht, Result.andThen_ok]
    cases td <;> first | (simp [notIface] at hn; done) | simp
  simp only [execOp, ho, hz, Sem.run_bind, this, Result.andThen_ok, Sem.run_pure]
theorem nilI_ok {C : Ctx} {o : Oper} {nm : Nat} {v : Operand → SV} {y : Operand} {u : SV} (ho : o.op = .nilCheck y) (hu : v y = u) (hw : ∀ M ρ x, VR M ρ u x → ∃ T z, x = .iface T z) :
    OpOK C o nm v [] (fun x z => x = u ∧ z = []) := by
  subst hu
  refine ok_pure fun M F ρ a h w hv hH hbs => ?_
  have h1 := hv y (by rw [ho]; simp [Op.operands])
  obtain ⟨T, z, hz⟩ := hw _ _ _ h1
  refine ⟨a.eval y, ?_, h1⟩
  simp only [execOp, ho, hz, Sem.run_pure]
theorem meth_ok {C : Ctx} {o : Oper} {nm : Nat} {v : Operand → SV} {y : Operand} {name : String} {u : SV} (ho : o.op = .makeFunc (.method name) #[y] #[]) (hw : ∀ M ρ x, VR M ρ (v y) x → VR M ρ u (.func (.method name) #[x] #[])) :
    OpOK C o nm v [] (fun x z => x = u ∧ z = []) := by
  refine ok_pure fun M F ρ a h w hv hH hbs => ⟨_, ?_, hw _ _ _ (hv y (by rw [ho]; simp [Op.operands]))⟩
  simp [execOp, ho, Instr.makeFunc]

section
variable {C : Ctx} {ops : List Oper} {i : Nat} {o : Oper} {l : List Oper} {t : Nat → SV} {h h' : Heap} {nx : Nat} {K : St → Prop} {acc : List FP} {T T' : TypeId} {y : Operand} {td : TypeDesc} {name : String}
theorem sIfc {u0 : SV} (u : SV) (d nm i' : Nat) (hi : i + 1 = i') (hnm : nx + 8 * i = nm) (hg : o.guard = none) (hdst : o.dst = some d) (hd : Nat.blt d C.sz = true) (ho : o.op = .makeInterface T y) (ht : C.P.underlying T = some td) (hn : notIface td = true) (hy : (opv C t y).hd = some u0) (hw : ∀ M ρ x, VR M ρ u0 x → VR M ρ u (.iface T x))
    (k : wops C ops i' l ⟨upd t d u, h, nx⟩ none K) : wops C ops i (o :: l) ⟨t, h, nx⟩ none K := by
  subst hi; subst hnm
  refine st_ok (σ := ⟨t, h, nx⟩) hg (by unfold dstOK; rw [hdst]; exact hd) (ifc_ok ho ht hn (by rw [SV.hd_eq hy]; exact hw)) (fun p hp => by cases hp) rfl ?_
  unfold St.app; rw [hdst]; exact k
theorem dIfc {u0 : SV} (u : SV) (d nm i' : Nat) (hi : i + 1 = i') (hnm : nx + 8 * i = nm) (hg : o.guard = none) (hdst : o.dst = some d) (hd : Nat.blt d C.sz = true) (ho : o.op = .makeInterface T y) (ht : C.P.underlying T = some td) (hn : notIface td = true) (hy : (opv C t y).hd = some u0) (hw : ∀ M ρ x, VR M ρ u0 x → VR M ρ u (.iface T x))
    (k : wops C ops i' l ⟨upd t d u, h, nx⟩ (some (acc ++ [([], [])])) K) : wops C ops i (o :: l) ⟨t, h, nx⟩ (some acc) K := by
  subst hi; subst hnm
  refine st_ok (σ := ⟨t, h, nx⟩) hg (by unfold dstOK; rw [hdst]; exact hd) (ifc_ok ho ht hn (by rw [SV.hd_eq hy]; exact hw)) (fun p hp => by cases hp) rfl ?_
  unfold St.app; rw [hdst]; exact k
theorem sAsrt {u0 : SV} (u : SV) (d nm i' : Nat) (hi : i + 1 = i') (hnm : nx + 8 * i = nm) (hg : o.guard = none) (hdst : o.dst = some d) (hd : Nat.blt d C.sz = true) (ho : o.op = .typeAssert y T' T false) (ht : C.P.underlying T = some td) (hn : notIface td = true) (hy : (opv C t y).hd = some u0) (hw : ∀ M ρ x, VR M ρ u0 x → ∃ z, x = .iface T z ∧ VR M ρ u z)
    (k : wops C ops i' l ⟨upd t d u, h, nx⟩ none K) : wops C ops i (o :: l) ⟨t, h, nx⟩ none K := by
  subst hi; subst hnm
  refine st_ok (σ := ⟨t, h, nx⟩) hg (by unfold dstOK; rw [hdst]; exact hd) (assert_ok ho ht hn (by rw [SV.hd_eq hy]; exact hw)) (fun p hp => by cases hp) rfl ?_
  unfold St.app; rw [hdst]; exact k
theorem dAsrt {u0 : SV} (u : SV) (d nm i' : Nat) (hi : i + 1 = i') (hnm : nx + 8 * i = nm) (hg : o.guard = none) (hdst : o.dst = some d) (hd : Nat.blt d C.sz = true) (ho : o.op = .typeAssert y T' T false) (ht : C.P.underlying T = some td) (hn : notIface td = true) (hy : (opv C t y).hd = some u0) (hw : ∀ M ρ x, VR M ρ u0 x → ∃ z, x = .iface T z ∧ VR M ρ u z)
    (k : wops C ops i' l ⟨upd t d u, h, nx⟩ (some (acc ++ [([], [])])) K) : wops C ops i (o :: l) ⟨t, h, nx⟩ (some acc) K := by
  subst hi; subst hnm
  refine st_ok (σ := ⟨t, h, nx⟩) hg (by unfold dstOK; rw [hdst]; exact hd) (assert_ok ho ht hn (by rw [SV.hd_eq hy]; exact hw)) (fun p hp => by cases hp) rfl ?_
  unfold St.app; rw [hdst]; exact k
theorem dNilI {u : SV} (d nm i' : Nat) (hi : i + 1 = i') (hnm : nx + 8 * i = nm) (hg : o.guard = none) (hdst : o.dst = some d) (hd : Nat.blt d C.sz = true) (ho : o.op = .nilCheck y) (hu : (opv C t y).hd = some u) (hw : ∀ M ρ x, VR M ρ u x → ∃ T z, x = .iface T z)
    (k : wops C ops i' l ⟨upd t d u, h, nx⟩ (some (acc ++ [([], [])])) K) : wops C ops i (o :: l) ⟨t, h, nx⟩ (some acc) K := by
  subst hi; subst hnm
  refine st_ok (σ := ⟨t, h, nx⟩) hg (by unfold dstOK; rw [hdst]; exact hd) (nilI_ok ho (SV.hd_eq hu) hw) (fun p hp => by cases hp) rfl ?_
  unfold St.app; rw [hdst]; exact k
theorem dMeth {u0 : SV} (u : SV) (d nm i' : Nat) (hi : i + 1 = i') (hnm : nx + 8 * i = nm) (hg : o.guard = none) (hdst : o.dst = some d) (hd : Nat.blt d C.sz = true) (ho : o.op = .makeFunc (.method name) #[y] #[]) (hy : (opv C t y).hd = some u0) (hw : ∀ M ρ x, VR M ρ u0 x → VR M ρ u (.func (.method name) #[x] #[]))
    (k : wops C ops i' l ⟨upd t d u, h, nx⟩ (some (acc ++ [([], [])])) K) : wops C ops i (o :: l) ⟨t, h, nx⟩ (some acc) K := by
  subst hi; subst hnm
  refine st_ok (σ := ⟨t, h, nx⟩) hg (by unfold dstOK; rw [hdst]; exact hd) (meth_ok ho (by rw [SV.hd_eq hy]; exact hw)) (fun p hp => by cases hp) rfl ?_
  unfold St.app; rw [hdst]; exact k
end

/-- A call that comes to a function, however it is spelt. -/
theorem enter_ok {C : Ctx} {o : Oper} {nm : Nat} {v : Operand → SV} {f : FuncId} {args : List SV} {hin : List Blk} {post : SV → List (Option Blk) → Prop} (hF : Spec C.P C.G f args hin post) (π : List Nat)
    (hrun : ∀ M ρ (a : Act) w, (∀ x, x ∈ o.op.operands → VR M ρ (v x) (a.eval x)) → ∃ vs : Array Value, (execOp a.eval o).run C.P w = .ok (.enter f vs) w ∧ vs.size = args.length ∧ ∀ (i : Nat) (x : SV), args[i]? = some x → ∃ u, vs[i]? = some u ∧ VR M ρ (ren π x) u)
    (side : (Nat.beq π.length hin.length && (nodupB π && (hUnder hin.length (hin.map some) && underL hin.length args))) = true) :
    OpOK C o nm v (bsOf π π hin) (fun u wr => ∃ r hout π2, post r hout ∧ π2 = π ++ newNames nm (hout.length - hin.length) ∧ u = ren π2 r ∧ wr = wrOf π2 π2 hout) := by
  simp only [Bool.and_eq_true] at side
  obtain ⟨s1, s2, s3, s4⟩ := side
  have s1 := Nat.eq_of_beq_eq_true s1
  intro M F ρ a h w hv hG hH hbs hfr K Q hK
  obtain ⟨vs, hr, hsz, hargs⟩ := hrun M ρ a w hv
  unfold Oper.wp
  rw [hr, Oper.upon_enter]
  refine (call_world hF hG hH s1 s2 hbs s3 s4 (vs := vs) hsz hargs hfr).mono ?_
  rintro e w' ⟨M', ρ', r, hout, u, π2, rfl, hπ2, h1, h2, h3, h4, h5, h6, h7⟩
  exact hK M' ρ' _ _ u w' h1 h2 h3 ⟨r, hout, π2, h7, hπ2, rfl, rfl⟩ h4 h5 h6

theorem run_callFunc {P : Program} {f : FuncId} {fn : Func} (hf : P.funcs[f]? = some fn) (hfn : fnOK fn = true) (args : Array Value) (w : World) : (callFunc f args).run P w = .ok (.enter f args) w := by
  simp only [fnOK, Bool.and_eq_true, Bool.not_eq_true'] at hfn
  obtain ⟨n1, n2⟩ := hfn
  have n1 : fn.name ≠ "runtime.NumGoroutine" := by simpa using n1
  have n3 : fn.body ≠ none := by intro e; rw [e] at n2; cases n2
  simp [callFunc, hf, n1, n3]
theorem run_callMethod {P : Program} {f : FuncId} {fn : Func} (hf : P.funcs[f]? = some fn) (hfn : fnOK fn = true) {T : TypeId} {x : Value} {name : String} (w : World) (hm : (Go.method (P.types.size + Made.depth) T x name).run P w = .ok (f, x) w) (args : Array Value) : (callMethod (.iface T x) name args).run P w = .ok (.enter f (#[x] ++ args)) w := by
  simp only [callMethod, Sem.run_bind, run_program, Result.andThen_ok, hm, run_callFunc hf hfn]

/-- A call of an interface's method. -/
theorem run_invoke {P : Program} {o : Oper} {a : Act} {recv : Operand} {name : String} {args : Array Operand} {tys : Array TypeId} (ho : o.op = .call { callee := .invoke recv name, args := args, argTypes := tys }) {f : FuncId} {fn : Func} (hf : P.funcs[f]? = some fn) (hfn : fnOK fn = true) {T : TypeId} {x : Value} (hr : a.eval recv = .iface T x) (w : World)
    (hm : (Go.method (P.types.size + Made.depth) T x name).run P w = .ok (f, x) w) : (execOp a.eval o).run P w = .ok (.enter f (#[x] ++ args.map a.eval)) w := by
  simp only [execOp, ho, resolve, Sem.run_bind, Sem.run_pure, Result.andThen_ok, invoke, hr]
  have : (#[Value.iface T x] ++ args.map a.eval)[0]? = some (.iface T x) := by rw [Array.getElem?_append_left (by simp)]; rfl
  simp only [this]
  have e : (#[Value.iface T x] ++ args.map a.eval).extract 1 (#[Value.iface T x] ++ args.map a.eval).size = args.map a.eval := by
    apply Array.ext'
    simp only [Array.toList_extract, Array.toList_append, Array.toList_map, List.extract_eq_take_drop]
    simp
    rw [List.take_of_length_le (by simp)]
  rw [e, run_callMethod hf hfn w hm]
/-- A call of a method's value. -/
theorem run_methVal {P : Program} {o : Oper} {a : Act} {y : Operand} {name : String} {args : Array Operand} {tys : Array TypeId} (ho : o.op = .call { callee := .value y, args := args, argTypes := tys }) {f : FuncId} {fn : Func} (hf : P.funcs[f]? = some fn) (hfn : fnOK fn = true) {T : TypeId} {x : Value} (hr : a.eval y = .func (.method name) #[.iface T x] #[]) (w : World)
    (hm : (Go.method (P.types.size + Made.depth) T x name).run P w = .ok (f, x) w) : (execOp a.eval o).run P w = .ok (.enter f (#[x] ++ args.map a.eval)) w := by
  simp only [execOp, ho, resolve, Sem.run_bind, hr, Deferred.ofValue, Sem.run_pure, Result.andThen_ok, invoke]
  have : (#[Value.iface T x] ++ args.map a.eval)[0]? = some (.iface T x) := by rw [Array.getElem?_append_left (by simp)]; rfl
  simp only [this]
  have e : (#[Value.iface T x] ++ args.map a.eval).extract 1 (#[Value.iface T x] ++ args.map a.eval).size = args.map a.eval := by
    apply Array.ext'
    simp only [Array.toList_extract, Array.toList_append, Array.toList_map, List.extract_eq_take_drop]
    simp
    rw [List.take_of_length_le (by simp)]
  rw [e, run_callMethod hf hfn w hm]

/- A step by a contract whose answer is one, in the text's order and in any order. -/
section
variable {C : Ctx} {ops : List Oper} {i : Nat} {o : Oper} {l : List Oper} {t : Nat → SV} {h h' : Heap} {nx : Nat} {K : St → Prop} {acc : List FP} {bs : List (Nat × Blk)} {wr : List (Nat × Option Blk)} {u u' : SV}
theorem sOk (d nm i' : Nat) (hok : OpOK C o nm (opv C t) bs (fun x y => x = u ∧ y = wr)) (hi : i + 1 = i') (hnm : nx + 8 * i = nm) (hg : o.guard = none) (hdst : o.dst = some d) (hd : Nat.blt d C.sz = true) (hbs : bsHeap h bs) (hk : keysIn bs nm wr = true) (hu : u.hd = some u') (hw : wrHO h wr = some h')
    (k : wops C ops i' l ⟨upd t d u', h', nx⟩ none K) : wops C ops i (o :: l) ⟨t, h, nx⟩ none K := by
  subst hi; subst hnm
  refine st_ok (σ := ⟨t, h, nx⟩) hg (by unfold dstOK; rw [hdst]; exact hd) hok (bsHeap_mem hbs) hk ?_
  unfold St.app; rw [hdst, SV.hd_eq hu, wrHO_eq hw]; exact k
theorem dOk (d nm i' : Nat) (hok : OpOK C o nm (opv C t) bs (fun x y => x = u ∧ y = wr)) (hi : i + 1 = i') (hnm : nx + 8 * i = nm) (hg : o.guard = none) (hdst : o.dst = some d) (hd : Nat.blt d C.sz = true) (hbs : bsHeap h bs) (hk : keysIn bs nm wr = true) (hu : u.hd = some u') (hw : wrHO h wr = some h')
    (k : wops C ops i' l ⟨upd t d u', h', nx⟩ (some (acc ++ [(bs.map (·.1), wr.map (·.1))])) K) : wops C ops i (o :: l) ⟨t, h, nx⟩ (some acc) K := by
  subst hi; subst hnm
  refine st_ok (σ := ⟨t, h, nx⟩) hg (by unfold dstOK; rw [hdst]; exact hd) hok (bsHeap_mem hbs) hk ?_
  unfold St.app; rw [hdst, SV.hd_eq hu, wrHO_eq hw]; exact k
end

/-- A call by a contract whose answer is not one alone, in the text's order. -/
theorem cQ {C : Ctx} {ops : List Oper} {i : Nat} {o : Oper} {l : List Oper} {t : Nat → SV} {h : Heap} {nx : Nat} {K : St → Prop} {f : FuncId} {args : List SV} {hin : List Blk} {post : SV → List (Option Blk) → Prop} (hF : Spec C.P C.G f args hin post) {x : Operand} {cargs : Array Operand} {tys : Array TypeId} {caps : List SV} {fn : Func}
    (π : List Nat) (d nm i' : Nat) (hi : i + 1 = i') (hnm : nx + 8 * i = nm) (hg : o.guard = none) (hdst : o.dst = some d) (hd : Nat.blt d C.sz = true) (ho : o.op = .call { callee := .value x, args := cargs, argTypes := tys }) (hx : opv C t x = .fn f caps) (hf : C.P.funcs[f]? = some fn) (hfn : fnOK fn = true)
    (hargs : mapV (opv C t) cargs.toList ++ caps = renL π args) (side : (Nat.beq π.length hin.length && (nodupB π && (hUnder hin.length (hin.map some) && underL hin.length args))) = true) (hbs : bsHeap h (bsOf π π hin))
    (k : ∀ r hout, post r hout → wops C ops i' l ⟨upd t d (ren (π ++ newNames nm (hout.length - hin.length)) r), wrH h (wrOf (π ++ newNames nm (hout.length - hin.length)) (π ++ newNames nm (hout.length - hin.length)) hout), nx⟩ none K) : wops C ops i (o :: l) ⟨t, h, nx⟩ none K := by
  subst hi; subst hnm
  refine st_callQ (σ := ⟨t, h, nx⟩) π hF hg (by unfold dstOK; rw [hdst]; exact hd) ho hx hf hfn hargs side hbs fun r hout hp => ?_
  have := k r hout hp
  unfold St.app; rw [hdst]; exact this

/-- A block is laid still; a slot that names it is told anew. -/
theorem refreeze {C : Ctx} {c : Code} {Q : Exit → St → Prop} {t : Nat → SV} {h : Heap} {nx : Nat} (s n len : Nat) (u' : SV) {ty k L : Nat} {f : Nat → Nat → D} {u : SV} (hs : (t s).hd = some u) (hn : h n = some (.rows ty k L f)) (hl : len ≤ L)
    (hu : ∀ M M' ρ, M.le M' → (∀ v, VR M ρ (.sl n 0 len) v → VR M' ρ (.d (.vec k len f)) v) → ∀ v, VR M ρ u v → VR M' ρ u' v)
    (kk : W C c Q ⟨upd t s u', upd h n none, nx⟩) : W C c Q ⟨t, h, nx⟩ := by
  intro M F pin ρ a w hsr
  obtain ⟨M', hle, hH', hv'⟩ := freeze_all hsr.hr hn hl
  have hts : t s = u := SV.hd_eq hs
  refine Code.wp_mono ?_ (kk M' F pin ρ a w ⟨⟨fun j => ?_, hsr.sz, hsr.df, hH', hsr.pn, hsr.pm, fun g ρ => (hsr.gl g ρ).mono hle (Names.le_refl _)⟩, hsr.fr⟩)
  · rintro e a' w' ⟨M2, ρ2, σ2, h1, h2, h3, h4⟩
    exact ⟨M2, ρ2, σ2, Imm.le_trans hle h1, h2, h3, h4⟩
  · show VR M' ρ (upd t s _ j) _
    rw [upd_eq]
    split
    · next e => subst e; exact hu M M' ρ hle hv' _ (by rw [← hts]; exact hsr.tm j)
    · exact (hsr.tm j).mono hle (Names.le_refl _)
end Go.Proofs.Ytlhncpbcbpdcfaa.Nice
