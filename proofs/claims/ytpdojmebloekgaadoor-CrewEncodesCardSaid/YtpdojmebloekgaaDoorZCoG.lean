/- The steps, beside others. -/
import Derived.Test.YtpdojmebloekgaaDoorZCoF
namespace Go.Proofs.YtpdojmebloekgaaDoor.Nice.Co
open Go Go.Conc
set_option linter.unusedVariables false
set_option linter.unusedSimpArgs false


section
variable {P : Program} {w : World}
theorem run_enter {a : Act} {o : Oper} {x : Operand} {cargs : Array Operand} {tys : Array TypeId} (ho : o.op = .call { callee := .value x, args := cargs, argTypes := tys }) {f : FuncId} {vs : Array Value} (hq : a.eval x = .func (.func f) #[] vs) {fn : Func} (hf : P.funcs[f]? = some fn) (hfn : fnOK fn = true) :
    (execOp a.eval o).run P w = .ok (.enter f (cargs.map a.eval ++ vs)) w ∧ (execOp a.eval o).events P w #[] = #[] := by
  simp only [fnOK, Bool.and_eq_true, Bool.not_eq_true'] at hfn
  obtain ⟨n1, n2⟩ := hfn
  have n1 : fn.name ≠ "runtime.NumGoroutine" := by simpa using n1
  have n3 : fn.body ≠ none := by intro e; rw [e] at n2; cases n2
  exact ⟨by simp [execOp, ho, resolve, hq, Deferred.ofValue, invoke, callFunc, hf, n1, n3], by simp [execOp, ho, resolve, hq, Deferred.ofValue, invoke, callFunc, hf, n1, n3]⟩
end
open Classical in
noncomputable def frameIn (A : Blks) (Fc : Imm) : Imm := fun b => if A b then Fc b else none
theorem frame_ext {A Rd : Blks} {M F : Imm} {ρ : Names} {h : Heap} {π : List Nat} {w : World} (f : Fit A Rd F M w) (H : HR M (ext A Rd F w) ρ h w) :
    frameOf M (ext A Rd F w) ρ h π w = ext A Rd (frameIn A (frameOf M (ext A Rd F w) ρ h π w)) w := by
  funext b
  by_cases ha : A b
  · rw [ext_in (.inl ha)]; unfold frameIn; rw [if_pos ha]
  · have hF : F b = none := by
      cases e : F b with
      | none => rfl
      | some o => exact absurd (f.fa b (by rw [e]; simp)) ha
    by_cases hr : Rd b
    · rw [ext_in (.inr hr)]
      unfold frameIn
      rw [if_neg ha]
      unfold frameOf
      rw [ext_in (.inr hr), hF, if_neg (by simp), if_neg (fun h => f.rm b hr h.1)]
    · have e : ¬ (A b ∨ Rd b) := fun h => h.elim ha hr
      rw [ext_out e]
      unfold frameOf
      rw [ext_out e]
      cases hb : w.heap[b]? with
      | none => simp
      | some o => simp

theorem call_ok {C : Ctx} {o : Oper} {nm : Nat} {v : Operand → SV} {x : Operand} {cargs : Array Operand} {tys : Array TypeId} (ho : o.op = .call { callee := .value x, args := cargs, argTypes := tys }) {f : FuncId} {caps : List SV} (hx : v x = .fn f caps)
    {fn : Func} (hf : C.P.funcs[f]? = some fn) (hfn : fnOK fn = true) {args : List SV} {hin : List Blk} {post : SV → List (Option Blk) → Prop} (hF : Spec C.P C.G f args hin post) (π : List Nat) (hargs : mapV v cargs.toList ++ caps = renL π args)
    (side : (Nat.beq π.length hin.length && (nodupB π && (hUnder hin.length (hin.map some) && underL hin.length args))) = true) :
    OpOK C o nm v (bsOf π π hin) (fun u wr => ∃ r hout π2, post r hout ∧ π2 = π ++ newNames nm (hout.length - hin.length) ∧ u = ren π2 r ∧ wr = wrOf π2 π2 hout) := by
  simp only [Bool.and_eq_true] at side
  obtain ⟨s1, s2, s3, s4⟩ := side
  have s1 := Nat.eq_of_beq_eq_true s1
  intro K A F M ρ a h w hfit hv hG hH hbs hfr gd b ops i rest k cs hoi hw hb hk
  have hvx := hv x (by rw [ho]; simp [Op.operands, Call.operands])
  rw [hx] at hvx
  obtain ⟨vs, hq, hvs, hvr⟩ := fn_case hvx
  have hrel := mapV_rel (M := M) (ρ := ρ) (a := a) (v := v) (xs := cargs) (fun y hy => hv y (by rw [ho]; simp [Op.operands, Call.operands, hy]))
  have hlenargs : args.length = cargs.size + vs.size := by
    have := congrArg List.length hargs
    rw [List.length_append, mapV_length, renL_length, Array.length_toList] at this
    omega
  refine K.step A _ w rfl fun w₁ h₁ => ?_
  obtain ⟨hrun, hev⟩ := run_enter (P := C.P) (w := w₁) (a := a) ho hq hf hfn
  have hl : listed C.P b.fn a o w₁ = #[] := by unfold listed; rw [hev]; exact seen_none _ _
  refine ⟨_, w₁, #[], (stepG_enter (o := { o with guard := gd }) hoi hw hb hrun).trans (by rw [show listed C.P b.fn a { o with guard := gd } w₁ = listed C.P b.fn a o w₁ from rfl, hl]), Guar.idle w₁, ?_⟩
  rw [more_self]
  have H1 := hr_rely hH hfit h₁
  have f1 := fit_rely hfit h₁
  have hin := call_in H1 s1 s2 hbs s3
  rw [frame_ext f1 H1] at hin
  generalize hF2 : frameIn A (frameOf M (ext A K.Rd F w₁) ρ h π w₁) = F2 at hin
  have f2 : Fit A K.Rd F2 M w₁ := ⟨fun b hb => by
    subst hF2
    unfold frameIn at hb
    by_cases ha : A b
    · exact ha
    · rw [if_neg ha] at hb; exact absurd rfl hb, f1.rm, f1.lt⟩
  have hF2A : ∀ b, A b → F2 b = frameOf M (ext A K.Rd F w₁) ρ h π w₁ b := fun b hb => by subst hF2; unfold frameIn; rw [if_pos hb]
  have hF2N : ∀ b, ¬ A b → F2 b = none := fun b hb => by subst hF2; unfold frameIn; rw [if_neg hb]
  refine hF K A F2 M (back π ρ) (cargs.map a.eval ++ vs) w₁ f2 hG hin (by simp [hlenargs]) ?_ ?_ _ cs ?_
  · intro i y hy
    have hyr : (mapV v cargs.toList ++ caps)[i]? = some (ren π y) := by rw [hargs, renL_get, hy]; rfl
    have hyu : y.under π.length = true := by rw [s1]; exact underL_get _ args s4 i y hy
    by_cases hi : i < cargs.size
    · rw [List.getElem?_append_left (by rw [mapV_length, Array.length_toList]; exact hi)] at hyr
      obtain ⟨u, u1, u2⟩ := hrel.2 i _ hyr
      exact ⟨u, by rw [Array.getElem?_append_left (by simpa using hi)]; exact u1, u2.back y rfl hyu⟩
    · rw [List.getElem?_append_right (by rw [mapV_length, Array.length_toList]; omega), mapV_length, Array.length_toList] at hyr
      obtain ⟨u, u1, u2⟩ := hvr _ _ hyr
      exact ⟨u, by rw [Array.getElem?_append_right (by simp; omega)]; simpa using u1, u2.back y rfl hyu⟩
  · intro n hn
    have : π[n]? = none := by rw [List.getElem?_eq_none_iff, s1]; exact hn
    simp [back, this]
  · intro A' M' ρ' r hout u w' k1 k2 k3 k4 k5 k6 k7 k8 k9
    have hFin : ∀ b, F b ≠ none → A b := hfit.fa
    obtain ⟨ρ2, π2, e1, e2, e3, e4, e5⟩ := call_out (M' := M') (Fs := ext A K.Rd F w₁) (Fe := ext A' K.Rd F w') (Fc := ext A' K.Rd F2 w') (nm := nm) (r := r) (hout := hout) (u := u) H1 s1 s2 hbs s3 hfr
      (fun b o hb => by
        by_cases e : A' b ∨ K.Rd b
        · rw [ext_in e] at hb ⊢
          have ha := hFin b (by rw [hb]; simp)
          rw [hF2A b ha]
          unfold frameOf
          rw [ext_in (.inl ha), hb, if_pos (by simp)]
        · rw [ext_out e] at hb ⊢; exact hb)
      (fun b hb => by
        by_cases e : A' b ∨ K.Rd b
        · rw [ext_in e] at hb ⊢
          cases hFb : F b with
          | none => rfl
          | some o =>
            have ha := hFin b (by rw [hFb]; simp)
            rw [hF2A b ha] at hb
            unfold frameOf at hb
            rw [ext_in (.inl ha), hFb, if_pos (by simp)] at hb
            cases hb
        · rw [ext_out e] at hb ⊢; exact hb)
      (fun b o hb hM hFs => by
        have ha := own_A f1 hM hFs hb
        rw [ext_in (.inl (k1 b ha))]
        rw [ext_in (.inl ha)] at hFs
        exact hFs)
      (fun b o hb hM hFs hp => by
        have ha := own_A f1 hM hFs hb
        rw [ext_in (.inl (k1 b ha)), hF2A b ha]
        unfold frameOf
        rw [if_neg (by rw [hFs]; simp), if_pos ⟨hM, hp⟩]
        exact hb)
      k2 k3 k4 k6 k7
    have := hk A' M' ρ2 (ren π2 r) (wrOf π2 π2 hout) u w' k1 k2 e2 e3 ⟨r, hout, π2, k9, e1, rfl, rfl⟩ e4 ⟨fun b hb => k1 b (hfit.fa b hb), k5.rm, k5.lt⟩ e5 (h₁.same.trans k8)
    rw [Frame.finish_at, hoi]
    exact this

/-- The step that takes one operation. -/
theorem st {C : Ctx} {ops : List Oper} {i : Nat} {o : Oper} {l : List Oper} {σ : St} {acc : Option (List FP)} {K : St → Prop} {vc : Prop} {bs : List (Nat × Blk)} {u : SV} {wr : List (Nat × Option Blk)}
    (hg : o.guard = none) (hd : dstOK C o = true) (e : sopC C (σ.nx + 8 * i) o (opv C σ.t) σ.h = some (vc, bs, u, wr)) (hvc : vc)
    (k : wops C ops (i + 1) l (σ.app o.dst u wr) (acc.map (· ++ [(bs.map (·.1), wr.map (·.1))])) K) : wops C ops i (o :: l) σ acc K := by
  obtain ⟨h1, h2, h3⟩ := sopC_ok e hvc
  unfold wops
  exact .inl ⟨_, _, ⟨hd, .inl ⟨by simp [gOn, hg], bs, u, wr, h1, h2, h3, rfl, rfl⟩⟩, k⟩

/-- The same with the value written otherwise. -/
theorem st_as {C : Ctx} {ops : List Oper} {i : Nat} {o : Oper} {l : List Oper} {σ : St} {acc : Option (List FP)} {K : St → Prop} {vc : Prop} {bs : List (Nat × Blk)} {u : SV} {wr : List (Nat × Option Blk)} (u' : SV)
    (hg : o.guard = none) (hd : dstOK C o = true) (e : sopC C (σ.nx + 8 * i) o (opv C σ.t) σ.h = some (vc, bs, u, wr)) (hvc : vc) (hu : u = u')
    (k : wops C ops (i + 1) l (σ.app o.dst u' wr) (acc.map (· ++ [(bs.map (·.1), wr.map (·.1))])) K) : wops C ops i (o :: l) σ acc K := by
  subst hu; exact st hg hd e hvc k

/-- A step whose outcome is told by a law of its own. -/
theorem st_ok {C : Ctx} {ops : List Oper} {i : Nat} {o : Oper} {l : List Oper} {σ : St} {acc : Option (List FP)} {K : St → Prop} {bs : List (Nat × Blk)} {u : SV} {wr : List (Nat × Option Blk)}
    (hg : o.guard = none) (hd : dstOK C o = true) (hok : OpOK C o (σ.nx + 8 * i) (opv C σ.t) bs (fun x y => x = u ∧ y = wr)) (hbs : ∀ p, p ∈ bs → σ.h p.1 = some p.2) (hk : keysIn bs (σ.nx + 8 * i) wr = true)
    (k : wops C ops (i + 1) l (σ.app o.dst u wr) (acc.map (· ++ [(bs.map (·.1), wr.map (·.1))])) K) : wops C ops i (o :: l) σ acc K := by
  unfold wops
  exact .inl ⟨_, _, ⟨hd, .inl ⟨by simp [gOn, hg], bs, u, wr, hok, hbs, hk, rfl, rfl⟩⟩, k⟩

/-- The end of a region. -/
theorem st_nil {C : Ctx} {ops : List Oper} {i : Nat} {σ : St} {acc : Option (List FP)} {K : St → Prop} (hc : chk ops acc) (k : K ⟨σ.t, σ.h, σ.nx + 8 * ops.length⟩) : wops C ops i [] σ acc K := ⟨hc, k⟩

/-- An operation behind a guard: both ways. -/
theorem st_guard {C : Ctx} {ops : List Oper} {i : Nat} {o : Oper} {l : List Oper} {σ : St} {acc : Option (List FP)} {K : St → Prop} {j : Nat} {want : Bool} {s : Tmp} {b : Bool}
    (hg : o.guard = some (j, want)) (hs : gslot ops j = some s) (hb : σ.t s = SV.b b)
    (on : b = want → wops C ops i ({ o with guard := none } :: l) ⟨upd σ.t s (SV.b want), σ.h, σ.nx⟩ acc K)
    (off : b = !want → wops C ops (i + 1) l (St.app ⟨upd σ.t s (SV.b !want), σ.h, σ.nx⟩ o.dst (.tup []) []) (acc.map (· ++ [([], [])])) K) (hd : dstOK C o = true) : wops C ops i (o :: l) σ acc K := by
  have same : upd σ.t s (SV.b b) = σ.t := by
    funext k; rw [upd_eq]; split
    · next e => subst e; exact hb.symm
    · rfl
  by_cases h : b = want
  · have := on h
    rw [← h, same] at this
    unfold wops at this ⊢
    have ops' : ∀ {nm : Nat} {v : Operand → SV} {bs RS}, OpOK C { o with guard := none } nm v bs RS → OpOK C o nm v bs RS := fun hok => hok
    rcases this with ⟨fp, σ', ⟨hd', hD⟩, hr⟩ | ⟨h0, hd', hgo, bs, RS, hok, hbs, hn⟩
    · refine .inl ⟨fp, σ', ⟨hd, ?_⟩, hr⟩
      rcases hD with ⟨_, bs, u, wr, hok, rest⟩ | ⟨hgf, _⟩
      · exact .inl ⟨by unfold gOn; rw [hg]; exact ⟨s, hs, by rw [hb, h]⟩, bs, u, wr, ops' hok, rest⟩
      · simp [gOff] at hgf
    · exact .inr ⟨h0, hd, by unfold gOn; rw [hg]; exact ⟨s, hs, by rw [hb, h]⟩, bs, RS, ops' hok, hbs, hn⟩
  · have h' : b = !want := by cases b <;> cases want <;> simp_all
    have := off h'
    rw [← h', same] at this
    unfold wops
    refine .inl ⟨([], []), _, ⟨hd, .inr ⟨?_, rfl, rfl⟩⟩, this⟩
    unfold gOff; rw [hg]; exact ⟨s, hs, .inl (by rw [hb, h'])⟩


end Go.Proofs.YtpdojmebloekgaaDoor.Nice.Co
