/- What the workers of both crews share. -/
import Derived.Test.YtpdojmebloekgaaDoorZMW
import Derived.Test.YtpdojmebloekgaaDoorZWgLink
import Derived.Test.YtpdojmebloekgaaDoorZChunkEnc
namespace Go.Proofs.YtpdojmebloekgaaDoor.Nice.Co
open Go Go.Conc Go.Conc.Lib Go.ConcR.Gen
open Go.ConcR (KK WgAt stA smA mk DC0)
set_option linter.unusedVariables false
set_option linter.unusedSimpArgs false

section
variable {C : Ctx} {ops : List Oper} {i : Nat} {o : Oper} {l : List Oper} {t : Nat → SV} {h h' : Heap} {nx : Nat} {K : St → Prop}
/-- A call of a function that comes as data. -/
theorem c1f {f : FuncId} {args : List SV} {r : SV} {hout : List (Option Blk)} (hF : Spec C.P C.G f args [] (fun r' ho => r' = r ∧ ho = hout)) {x : Operand} {cargs : Array Operand} {tys : Array TypeId} {fn : Func} {r' : SV}
    (π2 : List Nat) (d nm i' : Nat) (hi : i + 1 = i') (hnm : nx + 8 * i = nm) (hp : newNames nm hout.length = π2) (hg : o.guard = none) (hdst : o.dst = some d) (hd : Nat.blt d C.sz = true) (ho : o.op = .call { callee := .value x, args := cargs, argTypes := tys }) (hx : fnOf (opv C t x) = .fn f []) (hf : C.P.funcs[f]? = some fn) (hfn : fnOK fn = true)
    (hargs : mapV (fun y => fnOf (opv C t y)) cargs.toList ++ [] = renL [] args) (side : underL 0 args = true) (hr : (ren π2 r).hd = some r') (hw : wrHO h (wrOf π2 π2 hout) = some h')
    (k : wops C ops i' l ⟨upd t d r', h', nx⟩ none K) : wops C ops i (o :: l) ⟨t, h, nx⟩ none K := by
  subst hi; subst hnm; subst hp
  refine c1d (σ := ⟨t, h, nx⟩) hF hg (by unfold dstOK; rw [hdst]; exact hd) ho hx hf hfn hargs side ?_
  rintro r1 ho1 ⟨rfl, rfl⟩
  unfold St.app; rw [hdst, SV.hd_eq hr, wrHO_eq hw]; exact k
end

section
variable {C : Ctx} {A Rd : Blks} {M : Imm} {ds : List Deferred} {ρ : Names} {σ σ' : St} {a : Act} {w : World}
theorem SX.turn (ht : ∀ M F pin ρ a w, SR C M F pin ρ σ a w → ∃ M' ρ', M.le M' ∧ SR C M' F pin ρ' σ' a w) (h : SX C A Rd M ds ρ σ.nx σ a w) : ∃ M' ρ', M.le M' ∧ SX C A Rd M' ds ρ' σ'.nx σ' a w := by
  obtain ⟨M', ρ', h1, h2⟩ := ht M _ pin0 ρ ⟨a.tmps, []⟩ w ⟨h.sr, h.fr⟩
  exact ⟨M', ρ', h1, ⟨h.fit.fa, fun b hb => by
    obtain ⟨o, ho⟩ := Option.ne_none_iff_exists'.1 (h.fit.rm b hb)
    rw [h1 b o ho]; simp, h.fit.lt⟩, h2.toSR0, h.df, h2.fr⟩
/-- A block of one's own laid still. -/
theorem sr_freeze (s n len : Nat) {ty k L : Nat} {f : Nat → Nat → D} (hs : σ.t s = .sl n 0 len) (hn : σ.h n = some (.rows ty k L f)) (hl : len ≤ L) :
    ∀ M F pin ρ a w, SR C M F pin ρ σ a w → ∃ M' ρ', M.le M' ∧ SR C M' F pin ρ' ⟨upd σ.t s (.d (.vec k len f)), upd σ.h n none, σ.nx⟩ a w := by
  intro M F pin ρ a w hsr
  have hv := hsr.tm s
  rw [hs] at hv
  obtain ⟨M', g1, g2, g3⟩ := HR.still hsr.hr hn hl hv
  refine ⟨M', ρ, g1, ⟨⟨fun j => ?_, hsr.sz, hsr.df, g2, hsr.pn, hsr.pm, fun g ρ => (hsr.gl g ρ).mono g1 (Names.le_refl _)⟩, hsr.fr⟩⟩
  show VR M' ρ (upd σ.t s _ j) _
  rw [upd_eq]
  split
  · next e => subst e; exact g3
  · exact (hsr.tm j).mono g1 (Names.le_refl _)
theorem SX.freeze (h : SX C A Rd M ds ρ σ.nx σ a w) (s n len : Nat) {ty k L : Nat} {f : Nat → Nat → D} (hs : σ.t s = .sl n 0 len) (hn : σ.h n = some (.rows ty k L f)) (hl : len ≤ L) :
    ∃ M' ρ', M.le M' ∧ SX C A Rd M' ds ρ' (St.nx ⟨upd σ.t s (.d (.vec k len f)), upd σ.h n none, σ.nx⟩) ⟨upd σ.t s (.d (.vec k len f)), upd σ.h n none, σ.nx⟩ a w := h.turn (sr_freeze s n len hs hn hl)
theorem SX.sub {π : List Nat} {tl : List (Nat × SV)} {hl : List (Option Blk)} (h : SX C A Rd M ds ρ σ.nx σ a w) (hsub : Sub C π σ tl hl) : SX C A Rd M ds (back π ρ) (stOf tl hl).nx (stOf tl hl) a w := by
  have hr := hsub.rel h.sr
  exact ⟨h.fit, ⟨hr.tm, hr.sz, hr.df, hr.hr, (fun n x h => by cases h), hr.pm, hr.gl⟩, h.df, hr.fr⟩
end

theorem SX.le {nb nb' : Nat} {C : Ctx} {A Rd : Blks} {M : Imm} {ds : List Deferred} {ρ : Names} {σ : St} {a : Act} {w : World} (h : SX C A Rd M ds ρ nb σ a w) (hn : nb ≤ nb') : SX C A Rd M ds ρ nb' σ a w := ⟨h.fit, h.sr, h.df, fun n hn' => h.fr n (by omega)⟩
theorem RX.run {C : Ctx} {ops : Array Oper} {i : Nat} {Z : ZX} {K : Tr C.P} {ds : List Deferred} {σ : St} {A : Blks} {M : Imm} {ρ : Names} {a : Act} {w : World} {b : Frame} {k : List Item} {cs : List Frame} {nb : Nat} (h : RX C ops i Z K ds σ) (hs : SX C A K.Rd M ds ρ nb σ a w) (hn : nb ≤ σ.nx + 8 * i) (hb : b.kind ≠ .early) (hz : Z M w b k cs) :
    K.T A (G (b.at a (.inRegion ops (List.range' i (ops.size - i)) :: k)) cs) w := h A M ρ a w (hs.le hn) b k cs hb hz
theorem SX.bump {C : Ctx} {A Rd : Blks} {M : Imm} {ds : List Deferred} {ρ : Names} {nb : Nat} {σ : St} {a : Act} {w : World} (h : SX C A Rd M ds ρ nb σ a w) : SX C A Rd M ds ρ (St.nx ⟨σ.t, σ.h, nb⟩) ⟨σ.t, σ.h, nb⟩ a w := ⟨h.fit, ⟨h.sr.tm, h.sr.sz, h.sr.df, h.sr.hr, h.sr.pn, h.sr.pm, h.sr.gl⟩, h.df, h.fr⟩
/-- This very frame. -/
def ZB (P : Program) (f : FuncId) (k0 : List Item) : ZX := fun _ _ b k cs => b = baseD f ∧ cs = [botP P] ∧ k = k0
theorem ZB.up {P : Program} {f : FuncId} {k0 : List Item} : Up (ZB P f k0) := fun _ _ _ _ _ _ _ h _ _ => h

/-- A value of data alone. -/
def SV.flat : SV → Bool
  | .agg xs => xs.all SV.dataB
  | x => SV.dataB x
theorem VR.flat {M : Imm} {ρ ρ' : Names} {x : SV} {u : Value} (h : VR M ρ x u) (hx : SV.flat x = true) : VR M ρ' x u := by
  cases h with
  | agg xs vs g hs hg hr =>
    refine .agg xs vs g hs hg fun i y hy => VR.other (hr i y hy) ?_
    simp only [SV.flat, List.all_eq_true] at hx
    exact hx y (List.mem_of_getElem? hy)
  | any => exact .any _
  | d _ _ h => exact .d _ _ h
  | vp k len f i c b o cur T fz g hb hg hr => exact .vp k len f i c b o cur T fz g hb hg hr
  | _ => simp [SV.flat, SV.dataB] at hx

section
variable {C : Ctx} {Z : ZX} {ds : List Deferred} {σ : St} {ops : Array Oper} {i : Nat} {o : Oper} {Rd : Blks} {Pst : Value → World → Prop} {p : Pr} {x y : Operand}
/-- A worker tells. -/
theorem RX_send (ho : ops[i]? = some o) (hg : o.guard = none) (hop : o.op = .send x y) (hx : opv C σ.t x = .d (.val (.chan (some p.Ch)))) {T : SV} (hy : opv C σ.t y = T) (hT : SV.flat T = true) {k : Nat} (hTell : ∀ M v, (∀ ρ, VR M ρ T v) → p.Tell k M v)
    {hl : Lo.wk k ≠ .out} {hm : (Lo.wk k).mute = false}
    (hq : ∀ M w b kk cs (a : Act), Z M w b kk cs → a.defers = ds → ∀ w₁, WgLv p w₁ → Run C.P p Pst false ⟨no, no, 0, .told⟩ (G (b.at a (.inRegion ops (List.range' (i + 1) (ops.size - (i + 1))) :: kk)) cs) w₁) : RX C ops i Z (trRun C.P p Pst false Rd 0 (.wk k) hl hm) ds σ := by
  refine RX_step ho fun A M ρ a w hs b kk cs hb hz => trRun.intro fun hA w₁ h₁ hlv => ?_
  have hs₁ := hs.rely h₁
  have e1 := hs₁.val hx
  have hv := hs₁.op y
  rw [hy] at hv
  refine Run.intro (.send rfl rfl k rfl rfl (G (b.at a (.inRegion ops (i :: List.range' (i + 1) (ops.size - (i + 1))) :: kk)) cs) (a.eval y) (.tuple #[]) M (fun b hb => hs₁.domM hb) hs₁.sr.hr.imm (hTell M _ fun ρ' => VR.flat hv hT) (fun w₂ h₂ => ?_) fun w₂ hlv₂ => ?_)
  · have hrun : (execOp a.eval o).run C.P w₂ = .ok (.comm #[scase p.Ch (a.eval y) (.tuple #[])] true .send) w₂ := by
      simp [execOp, hop, e1, scase]
    have hev : (execOp a.eval o).events C.P w₂ #[] = #[] := by simp [execOp, hop, e1]
    rw [stepG_comm ho (wanted_none hg) hb hrun]
    unfold listed
    rw [hev, seen_none]
  · rw [served_G ho]
    exact hq M w b kk cs _ hz (by cases o.dst <;> simp [Act.put, hs.df]) w₂ hlv₂

/-- Behind its telling a worker leaves. -/
theorem worker_tail {P : Program} {L : WgLink} (H : WgLib P L) (hn : p.n < 2147483647) {f : FuncId} {fn : Func} (hf : P.funcs[f]? = some fn) (hr : fn.results = #[]) {T : Array Value} {w : World} (hlv : WgLv p w) :
    Run P p Pst false ⟨no, no, 0, .told⟩ (G ((baseD f).at ⟨T, [dcall L.done #[.pointer (some ⟨p.Wg, 0, none⟩)]]⟩ [.inRegion ops []]) [botP P]) w := by
  have hF : WK p no no w w := ⟨hlv, .refl w⟩
  refine Run.of_goes (n := 10) (by simp) ?_
  u_c stepG_region_end rlQ hF
  u_c stepG_end rlQ hF
  u_in rlQ hF
  rw [stepG_unwind_enter rfl H.f_done (nm_done L) rfl]
  simp only [goes_go]
  refine ⟨by u_nil, ?_⟩
  wstop
  exact wg_done H hn rfl (bot_quits hf hr) hF.1
end

/-- A cell of one's own laid still: from now on it is read as data. -/
theorem HR.cstill {M F : Imm} {ρ : Names} {h : Heap} {w : World} (hH : HR M F ρ h w) {n ty : Nat} {x : SV} {X : D} (hn : h n = some (.cells ty 1 [x])) (hx : ∀ M ρ v, VR M ρ x v → DR M X v) {v : Value} (hv : VR M ρ (.ptr n 0 0) v) :
    ∃ M', M.le M' ∧ HR M' F ρ (upd h n none) w ∧ VR M' ρ (.vp 1 1 (fun _ _ => X) 0 0) v := by
  cases hv with
  | ptr _ _ _ y hy =>
    obtain ⟨y', hy', hr⟩ := hH.live n _ hn
    rw [hy] at hy'; obtain rfl := Option.some.inj hy'
    rcases hr with ⟨_, hg⟩ | ⟨h0, hM, hF, o, h3, h4⟩
    · simp [Blk.ghost] at hg
    cases o with
    | cells cur T fz =>
      obtain ⟨rfl, rfl, g1, g2, g3, g4⟩ := h4
      let M' : Imm := fun b => if b = y.b then some (.cells cur T (0, 0)) else M b
      have hle : M.le M' := by
        intro b o hb
        have : b ≠ y.b := by rintro rfl; rw [hM] at hb; cases hb
        simp [M', this, hb]
      obtain ⟨u, hu, hur⟩ := g4 0 x rfl
      refine ⟨M', hle, hH.stills hle (fun m b hm => ?_) ?_ ?_ (fun m b z hm hz q0 => ?_) (fun m S es hm b hb => ?_), ?_⟩
      · rw [upd_eq] at hm; split at hm
        · cases hm
        · exact hm
      · intro b o hb
        by_cases e : b = y.b
        · subst e; simp [M'] at hb; subst hb; exact h3
        · simp [M', e] at hb; exact hH.imm b o hb
      · intro b o hb
        have : b ≠ y.b := by rintro rfl; rw [hF] at hb; cases hb
        simp [M', this]; exact hH.dis b o hb
      · rw [upd_eq] at hm; split at hm
        · cases hm
        · next e =>
          obtain ⟨z', hz', hr⟩ := hH.live m b hm
          rw [hz] at hz'; obtain rfl := Option.some.inj hz'
          have : z.b ≠ y.b := fun hb => e (hH.sep m n z y (by rw [hm]; simp) (by rw [hn]; simp) hz hy q0 h0 hb)
          rcases hr with ⟨h00, _⟩ | ⟨_, q1, _⟩
          · omega
          · simp [M', this, q1]
      · rw [upd_eq] at hm; split at hm
        · cases hm
        · obtain ⟨_, _, _, g1, g2, _⟩ := hH.fam m S es hm
          have : b ≠ y.b := fun e => g2 n y (by rw [hn]; simp) hy h0 (e ▸ hb)
          simp [M', this, (g1 b hb).1]
      · rw [g1]
        exact .vp 1 1 (fun _ _ => X) 0 0 y.b 0 cur T (0, 0) (fun _ _ => u) (by simp [M']) (fun i c hi hc => by
          have e1 : i = 0 := by omega
          have e2 : c = 0 := by omega
          subst e1 e2; exact hu) (fun i c hi hc => (hx _ _ _ hur).mono hle)
    | _ => exact h4.elim
theorem sr_cfreeze {C : Ctx} {σ : St} (s n : Nat) {ty : Nat} {x : SV} (X : D) (hs : σ.t s = .ptr n 0 0) (hn : σ.h n = some (.cells ty 1 [x])) (hx : ∀ M ρ v, VR M ρ x v → DR M X v) :
    ∀ M F pin ρ a w, SR C M F pin ρ σ a w → ∃ M' ρ', M.le M' ∧ SR C M' F pin ρ' ⟨upd σ.t s (.vp 1 1 (fun _ _ => X) 0 0), upd σ.h n none, σ.nx⟩ a w := by
  intro M F pin ρ a w hsr
  have hv := hsr.tm s
  rw [hs] at hv
  obtain ⟨M', g1, g2, g3⟩ := HR.cstill hsr.hr hn hx hv
  refine ⟨M', ρ, g1, ⟨⟨fun j => ?_, hsr.sz, hsr.df, g2, hsr.pn, hsr.pm, fun g ρ => (hsr.gl g ρ).mono g1 (Names.le_refl _)⟩, hsr.fr⟩⟩
  show VR M' ρ (upd σ.t s _ j) _
  rw [upd_eq]
  split
  · next e => subst e; exact g3
  · exact (hsr.tm j).mono g1 (Names.le_refl _)
theorem dr_of_d {X : D} : ∀ M ρ v, VR M ρ (.d X) v → DR M X v := fun M ρ v h => by cases h with | d _ _ h => exact h
theorem dr_of_fn {f : FuncId} : ∀ M ρ v, VR M ρ (.fn f []) v → DR M (.val (.func (.func f) #[] #[])) v := fun M ρ v h => by
  cases h with
  | fn _ _ vs g hs hg hr =>
    have : vs = #[] := Array.eq_empty_of_size_eq_zero (by simpa using hs)
    subst this
    exact .val _ rfl
section
variable {C : Ctx} {Q : QX C.P} {K : Tr C.P} {ds : List Deferred} {t : Nat → SV} {h : Heap} {nx : Nat} {c : Code}
theorem WX_cfreeze (s n : Nat) {ty : Nat} {x : SV} (X : D) (hs : t s = .ptr n 0 0) (hn : h n = some (.cells ty 1 [x])) (hx : ∀ M ρ v, VR M ρ x v → DR M X v) (k : WX C c Q K ds ⟨upd t s (.vp 1 1 (fun _ _ => X) 0 0), upd h n none, nx⟩) : WX C c Q K ds ⟨t, h, nx⟩ :=
  WX_turn (sr_cfreeze (σ := ⟨t, h, nx⟩) s n X hs hn hx) k
theorem WX_freeze (s n len : Nat) {ty k L : Nat} {f : Nat → Nat → D} (hs : t s = .sl n 0 len) (hn : h n = some (.rows ty k L f)) (hl : len ≤ L) (kk : WX C c Q K ds ⟨upd t s (.d (.vec k len f)), upd h n none, nx⟩) : WX C c Q K ds ⟨t, h, nx⟩ :=
  WX_turn (sr_freeze (σ := ⟨t, h, nx⟩) s n len hs hn hl) kk
end

section
variable {C : Ctx} {Q : QX C.P} {K : Tr C.P} {ds : List Deferred} {σ : St} {id : Nat} {ops : Array Oper} {y : Code}
theorem x1 (k : wops C ops.toList 0 ops.toList σ none (fun σ' => WX C y Q K [] σ')) : WX C (.seq (.region id ops false) y) Q K [] σ :=
  WX_seq (WX_of (Q0 := fun e σ' => thenX (WX C y Q) Q e K [] σ') (W_region k) fun _ _ h => h)
theorem x0 (k : wops C ops.toList 0 ops.toList σ none (fun σ' => Q .normal K [] σ')) : WX C (.region id ops false) Q K [] σ :=
  WX_of (Q0 := fun e σ' => Q e K [] σ') (W_region k) fun _ _ h => h
theorem xd1 (hm : C.P.follows .mixedOrders = true) (k : wops C ops.toList 0 ops.toList σ (some []) (fun σ' => WX C y Q K [] σ')) : WX C (.seq (.region id ops true) y) Q K [] σ :=
  WX_seq (WX_of (Q0 := fun e σ' => thenX (WX C y Q) Q e K [] σ') (W_region_draw hm k) fun _ _ h => h)
theorem xd0 (hm : C.P.follows .mixedOrders = true) (k : wops C ops.toList 0 ops.toList σ (some []) (fun σ' => Q .normal K [] σ')) : WX C (.region id ops true) Q K [] σ :=
  WX_of (Q0 := fun e σ' => Q e K [] σ') (W_region_draw hm k) fun _ _ h => h
theorem xX1 (k : RX C ops 0 (PZ C (thenX (WX C y Q) Q)) K ds σ) : WX C (.seq (.region id ops false) y) Q K ds σ := WX_seq (RX_region k)
theorem xX0 (k : RX C ops 0 (PZ C Q) K ds σ) : WX C (.region id ops false) Q K ds σ := RX_region k
theorem xtn {P : Program} {R : Tr P → List Deferred → St → Prop} {Q : QX P} {K : Tr P} {ds : List Deferred} {σ : St} (k : R K ds σ) : thenX R Q .normal K ds σ := k
theorem xbn {P : Program} {id : Nat} {Q : QX P} {K : Tr P} {ds : List Deferred} {σ : St} (k : Q .normal K ds σ) : inBlockX id Q .normal K ds σ := k
theorem xbo {P : Program} {id : Nat} {Q : QX P} {K : Tr P} {ds : List Deferred} {σ : St} (k : Q .normal K ds σ) : inBlockX id Q (.exit id) K ds σ := by simp [inBlockX, k]
theorem xtx {P : Program} {id : Nat} {R : Tr P → List Deferred → St → Prop} {Q : QX P} {K : Tr P} {ds : List Deferred} {σ : St} (k : Q (.exit id) K ds σ) : thenX R Q (.exit id) K ds σ := k
theorem xbx {P : Program} {id id' : Nat} (h : Nat.beq id' id = false) {Q : QX P} {K : Tr P} {ds : List Deferred} {σ : St} (k : Q (.exit id') K ds σ) : inBlockX id Q (.exit id') K ds σ := by
  have : id' ≠ id := fun e => by subst e; simp at h
  simp [inBlockX, this, k]
end
section
variable {C : Ctx} {Q : QX C.P} {K : Tr C.P} {ds : List Deferred} {t : Nat → SV} {h : Heap} {nx : Nat} {c : Code}
theorem WX_rowsc (n L' : Nat) (g : Nat → Nat → D) {ty k L : Nat} {f : Nat → Nat → D} (hn : h n = some (.rows ty k L f)) (hl : L = L') (hf : ∀ i c, i < L → c < k → f i c = g i c) (kk : WX C c Q K ds ⟨t, upd h n (some (.rows ty k L' g)), nx⟩) : WX C c Q K ds ⟨t, h, nx⟩ := by
  subst hl
  refine WX_turn (fun M F pin ρ a w hsr => ?_) kk
  refine ⟨M, ρ, Imm.le_refl _, ⟨⟨hsr.tm, hsr.sz, hsr.df, ?_, hsr.pn, hsr.pm, hsr.gl⟩, hsr.fr⟩⟩
  refine hsr.hr.swap n hn (fun x obj hb => ?_) (fun h => by cases L with | zero => rfl | succ L => cases h)
  cases obj with
  | cells cur T fz =>
    obtain ⟨h1, h2, h3, h4, h5, h6⟩ := hb
    exact ⟨h1, h2, h3, h4, h5, fun i c hi hc => by rw [← hf i c hi hc]; exact h6 i c hi hc⟩
  | _ => exact hb.elim
end
section
variable {C : Ctx} {Q : QX C.P} {K : Tr C.P} {ds : List Deferred} {c : Code}
theorem WX_keep {t : Nat → SV} {h : Heap} {nx : Nat} (ks : List Nat) {l : List (Nat × SV)} (e : keepO t ks = some l) (k : WX C c Q K ds ⟨tOf l, h, nx⟩) : WX C c Q K ds ⟨t, h, nx⟩ := by
  refine WX_turn (fun M F pin ρ a w hs => ?_) k
  refine ⟨M, ρ, Imm.le_refl _, ⟨⟨fun n => ?_, hs.sz, hs.df, hs.hr, hs.pn, hs.pm, hs.gl⟩, hs.fr⟩⟩
  rcases keepO_sub e n with h | h
  · show VR M ρ (tOf l n) _; rw [h]; exact .any _
  · show VR M ρ (tOf l n) _; rw [h]; exact hs.tm n
end
/-- How many of the first m are not in the list. -/
def miss (J : List Nat) : Nat → Nat
  | 0 => 0
  | m + 1 => miss J m + if m ∈ J then 0 else 1
theorem miss_le (k : Nat) (J : List Nat) : ∀ m, miss (k :: J) m ≤ miss J m
  | 0 => Nat.le_refl _
  | m + 1 => by
    have := miss_le k J m
    simp only [miss, List.mem_cons]
    by_cases h : m ∈ J
    · simp [h]; exact this
    · by_cases e : m = k
      · subst e; simp [h]; omega
      · simp [h, e]; exact this
theorem miss_lt {k : Nat} {J : List Nat} (hk : k ∉ J) : ∀ {m : Nat}, k < m → miss (k :: J) m < miss J m
  | 0, h => by omega
  | m + 1, h => by
    simp only [miss, List.mem_cons]
    by_cases e : m = k
    · subst e
      have := miss_le m J m
      simp [hk]; omega
    · have := miss_lt hk (m := m) (by omega)
      by_cases h2 : m ∈ J
      · simp [h2]; exact this
      · simp [h2, e]; exact this
end Go.Proofs.YtpdojmebloekgaaDoor.Nice.Co

/- crew.Encode's closer and worker. -/
namespace Go.Proofs.YtpdojmebloekgaaDoor.Nice.Co
open Go Go.Conc Go.Conc.Lib Go.ConcR.Gen
open Go.ConcR (KK WgAt stA smA mk DC0)
set_option linter.unusedVariables false
set_option linter.unusedSimpArgs false
set_option maxRecDepth 100000
set_option maxHeartbeats 4000000

def clCaps (p : Pr) : List SV := [.d (.val (.pointer (some ⟨p.Wg, 0, none⟩))), .vp 1 1 (fun _ _ => .val (.chan (some p.Ch))) 0 0]
section
variable {p : Pr} {Pst : Value → World → Prop}
theorem closer28 (hn : p.n < 2147483647) : Child Tryd.prog GC p Pst 28 (clCaps p) (.cw p.n) := by
  refine child_start (hl := by simp) (hm := rfl) Tryd.func28 rfl rfl (Nat.le_of_ble_eq_true rfl) fun Rd M a w hs hsh => ?_
  refine Tr.idle _ rfl (fun _ => stepG_seq) ?_
  refine Tr.idle _ rfl (fun _ => stepG_region) ?_
  rw [List.range_eq_range']
  refine RX.run (C := ⟨Tryd.prog, 4, 0, GC⟩) (i := 0) (Z := ZB Tryd.prog 28 _) (σ := stOf (argT 0 (clCaps p)) []) ?_ hs (Nat.le_refl _) (by simp [baseD]) ⟨rfl, rfl, rfl⟩
  refine RX_wait ZB.up YtpdojmebloekgaaDoor.wgLib rfl rfl rfl rfl rfl hn (hl' := by simp) (hm' := rfl) ?_
  intro A' M' ρ' a' w' hs' b k cs hb ⟨hb1, hcs, hk⟩
  subst hb1 hcs hk
  refine Tr.idle _ rfl (fun _ => stepG_region_end) ?_
  refine Tr.idle _ rfl (fun _ => stepG_region) ?_
  rw [List.range_eq_range']
  refine RX.run (C := ⟨Tryd.prog, 4, 0, GC⟩) (i := 0) (Z := ZB Tryd.prog 28 []) (σ := ⟨upd (tOf (argT 0 (clCaps p))) 2 .any, hOf [], 8⟩) ?_ hs'.bump (Nat.le_refl _) (by simp [baseD]) ⟨rfl, rfl, rfl⟩
  refine RX_ops ZB.up [_] 0 _ (fun j hj => by simp at hj; subst hj; rfl) ?_
  refine s1 3 8 1 rfl rfl rfl rfl rfl rfl (by decide) ?_
  refine e1 24 rfl ?_
  refine RX_close rfl rfl rfl rfl (fun M w b k cs a hz hd => ?_)
  obtain ⟨rfl, rfl, rfl⟩ := hz
  refine ⟨rfl, 4, ?_⟩
  q_c stepG_region_end
  q_c stepG_end
  obtain ⟨T, d⟩ := a
  simp only at hd
  subst hd
  exact bot_quits Tryd.func28 rfl

def wkCaps (p : Pr) (mk : FuncId) (X : D) (k : Nat) : List SV :=
  [.d (.val (.pointer (some ⟨p.Wg, 0, none⟩))), .vp 1 1 (fun _ _ => .val (.func (.func mk) #[] #[])) 0 0, .vp 1 1 (fun _ _ => X) 0 0, .vp 1 1 (fun _ _ => .val (.chan (some p.Ch))) 0 0, .vp 1 1 (fun _ _ => .val (.int .i64 k)) 0 0]
def encT (l : List Smp) (k : Nat) : SV := .agg [SV.i k, .d (if sfault l = 0 then .vec 1 (encB l).length (u8F (encB l)) else .nils), SV.i (sfault l)]
def tl26 (p : Pr) (k : Nat) (W : D) (c : Int) : List (Nat × SV) := [(3, .vp 1 1 (fun _ _ => .val (.chan (some p.Ch))) 0 0), (4, .vp 1 1 (fun _ _ => .val (.int .i64 k)) 0 0), (5, .d W), (6, SV.i c)]
theorem tail26 (hn : p.n < 2147483647) (k : Nat) (W : D) (c : Int) (hW : (∃ n f, W = .vec 1 n f) ∨ W = .nils) (hT : ∀ M v, (∀ ρ, VR M ρ (.agg [SV.i k, .d W, SV.i c]) v) → p.Tell k M v) {A Rd : Blks} {M : Imm} {ρ : Names} {a : Act} {w : World} {hl : Lo.wk k ≠ .out} {hm : (Lo.wk k).mute = false}
    (hs : SX ⟨Tryd.prog, 18, 0, GC⟩ A Rd M [dcall 27 #[.pointer (some ⟨p.Wg, 0, none⟩)]] ρ 0 (stOf (tl26 p k W c) []) a w) :
    (trRun Tryd.prog p Pst false Rd 0 (.wk k) hl hm).T A (G ((baseD 26).at a [.code (.region 2 #[{ dst := some 13, op := Go.Op.load 49 (Go.Operand.tmp 3), type := 49, pos := "crew.go:31", after := #[], guard := none }, { dst := some 14, op := Go.Op.load 3 (Go.Operand.tmp 4), type := 3, pos := "crew.go:31", after := #[], guard := none }, { dst := some 15, op := Go.Op.move (Go.Operand.tmp 5), type := 39, pos := "crew.go:31", after := #[], guard := none }, { dst := some 16, op := Go.Op.move (Go.Operand.tmp 6), type := 24, pos := "crew.go:31", after := #[], guard := none }, { dst := some 17, op := Go.Op.build 62 #[(0, Go.Operand.tmp 14), (1, Go.Operand.tmp 15), (2, Go.Operand.tmp 16)], type := 62, pos := "crew.go:31", after := #[{ on := 1, ground := Go.Ground.data }, { on := 2, ground := Go.Ground.data }, { on := 3, ground := Go.Ground.data }], guard := none }, { dst := none, op := Go.Op.send (Go.Operand.tmp 13) (Go.Operand.tmp 17), type := 0, pos := "crew.go:31", after := #[{ on := 0, ground := Go.Ground.data }, { on := 4, ground := Go.Ground.data }], guard := none }] false)]) [botP Tryd.prog]) w := by
  rcases hW with ⟨n, f, rfl⟩ | rfl
  · refine Tr.idle _ rfl (fun _ => stepG_region) ?_
    rw [List.range_eq_range']
    refine RX.run (C := ⟨Tryd.prog, 18, 0, GC⟩) (i := 0) (Z := ZB Tryd.prog 26 []) (σ := stOf (tl26 p k (.vec 1 n f) c) []) ?_ hs (Nat.le_refl _) (by simp [baseD]) ⟨rfl, rfl, rfl⟩
    refine RX_ops ZB.up [_, _, _, _, _] 0 _ (fun j hj => by simp at hj; match j, hj with | 0, _ => rfl | 1, _ => rfl | 2, _ => rfl | 3, _ => rfl | 4, _ => rfl) ?_
    refine s1 13 0 1 rfl rfl rfl rfl rfl rfl (by decide) ?_
    refine s1 14 8 2 rfl rfl rfl rfl rfl rfl (by decide) ?_
    refine s1 15 16 3 rfl rfl rfl rfl rfl rfl trivial ?_
    refine s1 16 24 4 rfl rfl rfl rfl rfl rfl trivial ?_
    refine s1 17 32 5 rfl rfl rfl rfl rfl rfl trivial ?_
    refine e1 48 rfl ?_
    refine RX_send (T := .agg [SV.i k, .d (.vec 1 n f), SV.i c]) rfl rfl rfl rfl rfl rfl hT (fun M w b kk cs a hz hd w₁ hlv => ?_)
    obtain ⟨rfl, rfl, rfl⟩ := hz
    obtain ⟨T, d⟩ := a
    simp only at hd
    subst hd
    exact worker_tail YtpdojmebloekgaaDoor.wgLib hn Tryd.func26 rfl hlv
  · refine Tr.idle _ rfl (fun _ => stepG_region) ?_
    rw [List.range_eq_range']
    refine RX.run (C := ⟨Tryd.prog, 18, 0, GC⟩) (i := 0) (Z := ZB Tryd.prog 26 []) (σ := stOf (tl26 p k .nils c) []) ?_ hs (Nat.le_refl _) (by simp [baseD]) ⟨rfl, rfl, rfl⟩
    refine RX_ops ZB.up [_, _, _, _, _] 0 _ (fun j hj => by simp at hj; match j, hj with | 0, _ => rfl | 1, _ => rfl | 2, _ => rfl | 3, _ => rfl | 4, _ => rfl) ?_
    refine s1 13 0 1 rfl rfl rfl rfl rfl rfl (by decide) ?_
    refine s1 14 8 2 rfl rfl rfl rfl rfl rfl (by decide) ?_
    refine s1 15 16 3 rfl rfl rfl rfl rfl rfl trivial ?_
    refine s1 16 24 4 rfl rfl rfl rfl rfl rfl trivial ?_
    refine s1 17 32 5 rfl rfl rfl rfl rfl rfl trivial ?_
    refine e1 48 rfl ?_
    refine RX_send (T := .agg [SV.i k, .d .nils, SV.i c]) rfl rfl rfl rfl rfl rfl hT (fun M w b kk cs a hz hd w₁ hlv => ?_)
    obtain ⟨rfl, rfl, rfl⟩ := hz
    obtain ⟨T, d⟩ := a
    simp only at hd
    subst hd
    exact worker_tail YtpdojmebloekgaaDoor.wgLib hn Tryd.func26 rfl hlv

theorem worker26 (hn : p.n < 2147483647) (l : List Smp) (hin : SmpIn l) (k : Nat) (hT : ∀ M v, (∀ ρ, VR M ρ (encT l k) v) → p.Tell k M v) : Child Tryd.prog GC p Pst 26 (wkCaps p 14 (.vec 2 l.length (smpF l)) k) (.wk k) := by
  refine child_start (hl := by simp) (hm := rfl) Tryd.func26 rfl rfl (Nat.le_of_ble_eq_true rfl) fun Rd M a w hs hsh => ?_
  have hptr : a.eval (.tmp 0) = .pointer (some ⟨p.Wg, 0, none⟩) := hs.val (x := .tmp 0) rfl
  refine Tr.idle _ rfl (fun _ => stepG_seq) ?_
  refine Tr.idle _ rfl (fun _ => stepG_region) ?_
  refine Tr.idle _ rfl (fun _ => stepG_defer (i := 0) (rest := []) rfl rfl (by simp [baseD]) rfl) ?_
  refine Tr.idle _ rfl (fun _ => stepG_region_end) ?_
  refine Tr.idle _ rfl (fun _ => stepG_seq) ?_
  refine Tr.idle _ rfl (fun _ => stepG_region) ?_
  rw [List.range_eq_range']
  have hs1 : SX ⟨Tryd.prog, 18, 0, GC⟩ no Rd M [dcall 27 #[.pointer (some ⟨p.Wg, 0, none⟩)]] pin0 8 ⟨tOf (argT 0 (wkCaps p 14 (.vec 2 l.length (smpF l)) k)), hOf [], 8⟩ (Act.put ⟨a.tmps, dcall 27 (#[Operand.tmp 0].map a.eval) :: a.defers⟩ none undef) w := by
    have hb := (hs.le (nb' := 8) (by omega)).bump
    refine ⟨hb.fit, hb.sr, ?_, hb.fr⟩
    simp [Act.put, hs.df, hptr]
  refine RX.run (C := ⟨Tryd.prog, 18, 0, GC⟩) (i := 0) (Z := ZB Tryd.prog 26 _) (σ := ⟨tOf (argT 0 (wkCaps p 14 (.vec 2 l.length (smpF l)) k)), hOf [], 8⟩) ?_ hs1 (Nat.le_refl _) (by simp [baseD]) ⟨rfl, rfl, rfl⟩
  refine RX_ops ZB.up [_, _, _, _, _, _, _, _] 0 _ (fun j hj => by simp at hj; match j, hj with | 0, _ => rfl | 1, _ => rfl | 2, _ => rfl | 3, _ => rfl | 4, _ => rfl | 5, _ => rfl | 6, _ => rfl | 7, _ => rfl) ?_
  refine s1 8 8 1 rfl rfl rfl rfl rfl rfl (by decide) ?_
  refine s1 9 16 2 rfl rfl rfl rfl rfl rfl (by decide) ?_
  by_cases hz : sfault l = 0
  · refine c1f (encode_ok l hin hz) [24] 10 24 3 rfl rfl rfl rfl rfl rfl rfl rfl Tryd.func14 rfl rfl rfl rfl rfl ?_
    refine s1 7 32 4 rfl rfl rfl rfl rfl rfl trivial ?_
    refine s1 11 40 5 rfl rfl rfl rfl rfl rfl trivial ?_
    refine s1 12 48 6 rfl rfl rfl rfl rfl rfl trivial ?_
    refine s1 5 56 7 rfl rfl rfl rfl rfl rfl trivial ?_
    refine s1 6 64 8 rfl rfl rfl rfl rfl rfl trivial ?_
    refine e1 72 rfl ?_
    intro A' M' ρ' a' w' hs' b kk cs hb ⟨hb1, hcs, hk⟩
    subst hb1 hcs hk
    refine Tr.idle _ rfl (fun _ => stepG_region_end) ?_
    obtain ⟨M2, ρ2, hle, hs2⟩ := hs'.bump.freeze 5 24 (encB l).length rfl rfl (Nat.le_refl _)
    have hs3 := hs2.sub (π := []) (tl := tl26 p k (.vec 1 (encB l).length (u8F (encB l))) 0) (hl := []) ⟨rfl, ⟨rfl, rfl, rfl, rfl, trivial⟩, trivial⟩
    refine tail26 hn k _ 0 (.inl ⟨_, _, rfl⟩) (fun M v hv => hT M v ?_) hs3
    have e : encT l k = .agg [SV.i k, .d (.vec 1 (encB l).length (u8F (encB l))), SV.i 0] := by unfold encT; rw [if_pos hz, hz]
    rw [e]; exact hv
  · refine c1f (encode_bad l hin hz) [] 10 24 3 rfl rfl rfl rfl rfl rfl rfl rfl Tryd.func14 rfl rfl rfl rfl rfl ?_
    refine s1 7 32 4 rfl rfl rfl rfl rfl rfl trivial ?_
    refine s1 11 40 5 rfl rfl rfl rfl rfl rfl trivial ?_
    refine s1 12 48 6 rfl rfl rfl rfl rfl rfl trivial ?_
    refine s1 5 56 7 rfl rfl rfl rfl rfl rfl trivial ?_
    refine s1 6 64 8 rfl rfl rfl rfl rfl rfl trivial ?_
    refine e1 72 rfl ?_
    intro A' M' ρ' a' w' hs' b kk cs hb ⟨hb1, hcs, hk⟩
    subst hb1 hcs hk
    refine Tr.idle _ rfl (fun _ => stepG_region_end) ?_
    have hs3 := hs'.bump.sub (π := []) (tl := tl26 p k .nils (sfault l)) (hl := []) ⟨rfl, ⟨rfl, rfl, rfl, rfl, trivial⟩, trivial⟩
    refine tail26 hn k _ _ (.inr rfl) (fun M v hv => hT M v ?_) hs3
    have e : encT l k = .agg [SV.i k, .d .nils, SV.i (sfault l)] := by unfold encT; rw [if_neg hz]
    rw [e]; exact hv
end
end Go.Proofs.YtpdojmebloekgaaDoor.Nice.Co

/- crew.Encode's each: from its head to the receive loop. -/
namespace Go.Proofs.YtpdojmebloekgaaDoor.Nice.Co
open Go Go.Conc Go.Conc.Lib Go.ConcR.Gen
open Go.ConcR (KK WgAt stA smA mk DC0)
set_option linter.unusedVariables false
set_option linter.unusedSimpArgs false
set_option maxRecDepth 100000
set_option maxHeartbeats 4000000

noncomputable abbrev CE : Ctx := ⟨Tryd.prog, 63, 0, GC⟩
def elD (L : List (List Smp)) (i : Nat) : D := .vec 2 (L.getD i []).length (smpF (L.getD i []))
def listE (L : List (List Smp)) : SV := .d (.vec 1 L.length (fun i _ => elD L i))
def tellE (L : List (List Smp)) : Nat → Imm → Value → Prop := fun k M v => ∀ ρ, VR M ρ (encT (L.getD k []) k) v
abbrev pE (L : List (List Smp)) (Wg Ch : Nat) : Pr := ⟨L.length, Wg, Ch, 59, tellE L⟩
def tlS (L : List (List Smp)) (Wg Ch : Nat) (j : Nat) : List (Nat × SV) :=
  [(0, listE L), (3, .vp 1 1 (fun _ _ => .val (.func (.func 14) #[] #[])) 0 0), (6, .vp 1 1 (fun _ _ => .val (.chan (some Ch))) 0 0), (7, .d (.val (.pointer (some ⟨Wg, 0, none⟩)))), (19, listE L), (20, SV.i L.length), (21, SV.i j)]
theorem run_alloc59 (w : World) : (Instr.alloc 59 true (.tuple #[])).run Tryd.prog w = .ok (.pointer (some ⟨w.heap.size, 0, none⟩)) (w.alloc (wgObj 59)) := by
  have h : zerosOf Tryd.prog 59 = some [.int .u64 0, .int .u32 0] := by kernel_rfl
  obtain ⟨i, z, hi, hz, hzl, _, _⟩ := zerosOf_ok h
  have hc : z.cells = #[.int .u64 0, .int .u32 0] := by rw [← hzl]
  simp [Instr.alloc, zeroValue, typeInfo, hi, hz, newVar, newRow, hc]
  rfl
theorem ev_alloc59 (w : World) : (Instr.alloc 59 true (.tuple #[])).events Tryd.prog w #[] = #[] := by
  have h : zerosOf Tryd.prog 59 = some [.int .u64 0, .int .u32 0] := by kernel_rfl
  obtain ⟨i, z, hi, hz, hzl, _, _⟩ := zerosOf_ok h
  simp [Instr.alloc, zeroValue, typeInfo, hi, hz, newVar, newRow]
noncomputable def rest13 : Code := match Tryd.f13.body.getD .skip with | .seq _ (.seq _ (.seq _ (.seq _ (.seq _ c)))) => c | _ => .skip
theorem hS {j : Nat} {q : Bool} : Lo.spawn j q ≠ .out := by simp
theorem each13_a {Pst : Value → World → Prop} (L : List (List Smp)) (hL : L.length ≤ 100) (hin : ∀ l, l ∈ L → SmpIn l) (Rd : Blks) {Q : QX Tryd.prog}
    (hrest : ∀ Wg Ch Rd' π σ, Sub CE π σ (tlS L Wg Ch L.length) [] → WX CE rest13 Q (trRun Tryd.prog (pE L Wg Ch) Pst true Rd' 0 (.spawn L.length false) hS rfl) [] σ) : WX CE (Tryd.f13.body.getD .skip) Q (trPre Tryd.prog Pst Rd .p0) [] (stOf (argT 0 [listE L, .fn 14 []]) []) := by
  obtain ⟨inf, hinf⟩ : ∃ inf, Tryd.prog.info? 62 = some inf := Option.isSome_iff_exists.1 (by kernel_rfl)
  refine x1 ?_
  refine s1 3 0 1 rfl rfl rfl rfl rfl rfl trivial ?_
  refine s1 4 8 2 rfl rfl rfl rfl rfl rfl trivial ?_
  refine s1 5 16 3 rfl rfl rfl rfl rfl rfl trivial ?_
  refine e1 24 rfl ?_
  refine WX_seq ?_
  refine x1 ?_
  refine s1 15 24 1 rfl rfl rfl rfl rfl rfl trivial ?_
  refine s1 16 32 2 rfl rfl rfl rfl rfl rfl trivial ?_
  refine s1 17 40 3 rfl rfl rfl rfl rfl rfl trivial ?_
  refine e1 48 rfl ?_
  refine WX_cond rfl (fun hc => ?_) fun hc => ?_
  · exfalso
    simp at hc; omega
  refine WX_skip ?_
  refine xtn ?_
  refine WX_cfreeze 3 0 (.val (.func (.func 14) #[] #[])) rfl rfl dr_of_fn ?_
  refine xX1 ?_
  refine RX_makeChan PZ.up rfl rfl rfl rfl Tryd.underlying49 hinf rfl fun Ch => ?_
  refine RX_ops PZ.up [_, _] 1 _ (fun j hj => by simp at hj; match j, hj with | 0, _ => rfl | 1, _ => rfl) ?_
  refine s1 6 56 2 rfl rfl rfl rfl rfl rfl trivial ?_
  refine s0 64 3 rfl rfl rfl rfl rfl trivial ?_
  refine e1 72 rfl ?_
  refine RX_end rfl rfl ?_
  refine xtn ?_
  refine WX_cfreeze 6 56 (.val (.chan (some Ch))) rfl rfl dr_of_d ?_
  refine xX1 ?_
  refine RX_allocWg PZ.up rfl rfl rfl run_alloc59 ev_alloc59 rfl L.length (tellE L) (hl := hS) (hm := rfl) fun Wg => ?_
  refine RX_end rfl rfl ?_
  refine xtn ?_
  refine WX_seq ?_
  refine x1 ?_
  refine s1 19 80 1 rfl rfl rfl rfl rfl rfl trivial ?_
  refine s1 20 88 2 rfl rfl rfl rfl rfl rfl trivial ?_
  refine s1 21 96 3 rfl rfl rfl rfl rfl rfl trivial ?_
  refine e1 104 rfl ?_
  refine WX_block ?_
  refine WX_loop0 (fun m K ds σ => ds = [] ∧ ∃ j Rd' π, j ≤ L.length ∧ m = L.length - j ∧ K = trRun Tryd.prog (pE L Wg Ch) Pst true Rd' 0 (.spawn j false) hS rfl ∧ Sub CE π σ (tlS L Wg Ch j) []) L.length ⟨rfl, 0, _, [], Nat.zero_le _, rfl, rfl, ⟨rfl, ⟨rfl, rfl, rfl, rfl, rfl, rfl, rfl, trivial⟩, trivial⟩⟩ ?_
  rintro m K ds σ ⟨rfl, j, Rd', π, hj, rfl, rfl, hsub⟩
  refine WX_sub π _ _ hsub ?_
  refine x1 ?_
  refine s1 22 0 1 rfl rfl rfl rfl rfl rfl trivial ?_
  refine e1 8 rfl ?_
  refine WX_seq ?_
  refine WX_cond rfl (fun hc => ?_) fun hc => ?_
  · have hjn : j < L.length := by simpa using hc
    refine WX_skip ?_
    refine xtn ?_
    refine WX_seq ?_
    refine WX_block ?_
    refine x1 ?_
    refine s1 23 8 1 rfl rfl rfl rfl rfl rfl trivial ?_
    refine s1 24 16 2 rfl rfl rfl rfl rfl rfl (by omega) ?_
    refine s1 25 24 3 rfl rfl rfl rfl rfl rfl (by omega) ?_
    refine s1 8 32 4 rfl rfl rfl rfl rfl rfl trivial ?_
    refine s1 9 40 5 rfl rfl rfl rfl rfl rfl trivial ?_
    refine s0 48 6 rfl rfl rfl rfl rfl trivial ?_
    refine s0 56 7 rfl rfl rfl rfl rfl trivial ?_
    refine e1 64 rfl ?_
    refine WX_cfreeze 8 32 (.val (.int .i64 j)) rfl rfl dr_of_d ?_
    refine WX_cfreeze 9 40 (elD L j) rfl rfl dr_of_d ?_
    refine xX1 ?_
    refine RX_add PZ.up YtpdojmebloekgaaDoor.wgLib rfl rfl rfl rfl rfl rfl hjn (Nat.lt_of_le_of_lt hL (by omega)) (hl' := hS) (hm' := rfl) ?_
    refine RX_end rfl rfl ?_
    refine xtn ?_
    refine xX0 ?_
    refine RX_ops PZ.up [_] 0 _ (fun j hj => by simp at hj; subst hj; rfl) ?_
    refine s1 27 72 1 rfl rfl rfl rfl rfl rfl trivial ?_
    refine e1 88 rfl ?_
    refine RX_spawnW PZ.up rfl rfl rfl rfl rfl ?_ (hl' := hS) (hm' := rfl) (worker26 (p := pE L Wg Ch) (Nat.lt_of_le_of_lt hL (by omega)) (L.getD j []) ?_ j (fun M v h => h)) fun Rd2 => ?_
    · exact fun y hy => List.all_eq_true.1 (show (wkCaps (pE L Wg Ch) 14 _ j).all SV.dataB = true from rfl) y hy
    · refine hin _ ?_
      rw [List.getD_eq_getElem?_getD, List.getElem?_eq_getElem hjn]
      exact List.getElem_mem hjn
    refine RX_end rfl rfl ?_
    refine xbn ?_
    refine xtn ?_
    refine x0 ?_
    refine sA 28 88 1 rfl rfl rfl rfl rfl rfl rfl rfl rfl (by unfold inRange; omega) ?_
    refine s1 21 96 2 rfl rfl rfl rfl rfl rfl trivial ?_
    refine e1 104 rfl ?_
    exact ⟨L.length - (j + 1), by omega, rfl, j + 1, Rd2, [], by omega, rfl, rfl, ⟨rfl, ⟨rfl, rfl, rfl, rfl, rfl, rfl, rfl, trivial⟩, trivial⟩⟩
  · have hjn : j = L.length := by have : ¬ ((j : Int) < L.length) := by simpa using hc
                                  omega
    subst hjn
    refine WX_exit ?_
    refine xtx ?_
    refine xtx ?_
    refine xbo ?_
    refine xtn ?_
    exact hrest Wg Ch Rd' [] _ ⟨rfl, ⟨rfl, rfl, rfl, rfl, rfl, rfl, rfl, trivial⟩, trivial⟩
end Go.Proofs.YtpdojmebloekgaaDoor.Nice.Co

/- What crew.Encode's each answers, and how its last piece comes to it. -/
namespace Go.Proofs.YtpdojmebloekgaaDoor.Nice.Co
open Go
set_option linter.unusedVariables false
set_option linter.unusedSimpArgs false
set_option maxRecDepth 100000
def whatE (L : List (List Smp)) (i : Nat) : D := if sfault (L.getD i []) = 0 then .vec 1 (encB (L.getD i [])).length (u8F (encB (L.getD i []))) else .nils
def faultsTo (L : List (List Smp)) : Nat → Int
  | 0 => 0
  | n + 1 => if faultsTo L n = 0 then sfault (L.getD n []) else faultsTo L n
def firstE (L : List (List Smp)) : Int := faultsTo L L.length
theorem faultsTo_stay {L : List (List Smp)} {k n : Nat} (hk : k ≤ n) (h : faultsTo L k ≠ 0) : faultsTo L n = faultsTo L k := by
  induction n with
  | zero => obtain rfl : k = 0 := by omega
            rfl
  | succ n ih =>
    by_cases e : k = n + 1
    · subst e; rfl
    · have := ih (by omega)
      show (if faultsTo L n = 0 then _ else _) = _
      rw [if_neg (by rw [this]; exact h), this]
theorem faultsTo_at {L : List (List Smp)} {k n : Nat} (hk : k < n) (h0 : faultsTo L k = 0) (h : sfault (L.getD k []) ≠ 0) : faultsTo L n = sfault (L.getD k []) := by
  have e : faultsTo L (k + 1) = sfault (L.getD k []) := by show (if _ then _ else _) = _; rw [if_pos h0]
  rw [faultsTo_stay (k := k + 1) hk (by rw [e]; exact h), e]
theorem faultsTo_step {L : List (List Smp)} {k : Nat} (h0 : faultsTo L k = 0) (h : sfault (L.getD k []) = 0) : faultsTo L (k + 1) = 0 := by show (if _ then _ else _) = _; rw [if_pos h0, h]
def encAns (L : List (List Smp)) : SV := if 100 < L.length then .tup [.d .nils, SV.i 1] else if firstE L = 0 then .tup [.d (.vec 1 L.length (fun i _ => whatE L i)), SV.i 0] else .tup [.d .nils, SV.i (firstE L)]
theorem ans_ok {L : List (List Smp)} (hL : L.length ≤ 100) (h : firstE L = 0) : encAns L = .tup [.d (.vec 1 L.length (fun i _ => whatE L i)), SV.i 0] := by unfold encAns; rw [if_neg (by omega), if_pos h]
theorem ans_bad {L : List (List Smp)} (hL : L.length ≤ 100) (h : firstE L ≠ 0) : encAns L = .tup [.d .nils, SV.i (firstE L)] := by unfold encAns; rw [if_neg (by omega), if_neg h]
theorem ans_size {L : List (List Smp)} (hL : 100 < L.length) : encAns L = .tup [.d .nils, SV.i 1] := by unfold encAns; rw [if_pos hL]
theorem ans_free (L : List (List Smp)) (π : List Nat) : ren π (encAns L) = encAns L ∧ Free (encAns L) := by
  have key : ∀ x y : D, ren π (.tup [.d x, .d y]) = .tup [.d x, .d y] ∧ Free (.tup [.d x, .d y]) := fun x y => ⟨rfl, free_two (free_data rfl) (free_data rfl)⟩
  unfold encAns
  split
  · exact key _ _
  · split
    · exact key _ _
    · exact key _ _
noncomputable def last13 : Code := match rest13 with | .seq _ (.seq _ (.seq _ (.seq _ c))) => c | _ => .skip

theorem tail13 (L : List (List Smp)) (hL : L.length ≤ 100) : W ⟨Tryd.prog, 63, 0, GC⟩ last13 (outQ ⟨Tryd.prog, 63, 0, GC⟩ Tryd.f13 (fun r _ => r = encAns L)) (stOf [(10, .sl 0 0 L.length), (11, .sl 1 0 L.length)] [some (.rows 39 1 L.length (fun i _ => whatE L i)), some (.rows 24 1 L.length (fun i _ => .val (.int .i64 (sfault (L.getD i [])))))]) := by
  show W _ _ _ ⟨tOf _, hOf _, 2⟩
  refine W_seq ?_
  refine r1 ?_
  refine s1 52 2 1 rfl rfl rfl rfl rfl rfl trivial ?_
  refine s1 53 10 2 rfl rfl rfl rfl rfl rfl (by first | trivial | omega) ?_
  refine s1 54 18 3 rfl rfl rfl rfl rfl rfl trivial ?_
  refine e1 26 rfl ?_
  refine keep [10, 52, 53, 54] rfl ?_
  refine W_block ?_
  refine loop (α := Nat) 2 (fun n => [(10, .sl 0 0 L.length), (52, .sl 1 0 L.length), (53, SV.i L.length), (54, SV.i n)]) (fun n => [some (.rows 39 1 L.length (fun i _ => whatE L i)), some (.rows 24 1 L.length (fun i _ => .val (.int .i64 (sfault (L.getD i [])))))]) (fun n => n ≤ L.length ∧ faultsTo L n = 0) (fun n => L.length - n) (0) [0, 1] (fun _ => rfl) ⟨Nat.zero_le _, rfl⟩ rfl ⟨rfl, rfl, rfl, rfl, trivial⟩ ⟨rfl, rfl, trivial⟩ (fun n hx => ?_)
  obtain ⟨hn, hno⟩ := hx
  refine r1 ?_
  refine s1 55 2 1 rfl rfl rfl rfl rfl rfl (by first | trivial | omega) ?_
  refine e1 10 rfl ?_
  refine keep [10, 52, 53, 54, 55] rfl ?_
  refine W_seq ?_
  refine q1 rfl (fun hc19 => ?_) (fun hc19 => ?_)
  · skip
    try simp only [cs, ne_eq] at hc19
    refine W_skip ?_
    refine tn ?_
    refine W_seq ?_
    refine W_block ?_
    refine r1 ?_
    refine s1 56 10 1 rfl rfl rfl rfl rfl rfl (by first | trivial | omega) ?_
    refine s1 57 18 2 rfl rfl rfl rfl rfl rfl (by first | trivial | omega) ?_
    refine s1 14 26 3 rfl rfl rfl rfl rfl rfl trivial ?_
    refine e1 34 rfl ?_
    refine keep [10, 14, 52, 53, 54] rfl ?_
    refine r1 ?_
    refine s1 58 34 1 rfl rfl rfl rfl rfl rfl trivial ?_
    refine s1 59 42 2 rfl rfl rfl rfl rfl rfl (by first | trivial | omega) ?_
    refine e1 50 rfl ?_
    refine keep [10, 14, 52, 53, 54, 59] rfl ?_
    refine q1 rfl (fun hc21 => ?_) (fun hc21 => ?_)
    · skip
      try simp only [cs, ne_eq] at hc21
      refine r1 ?_
      refine s1 60 50 1 rfl rfl rfl rfl rfl rfl trivial ?_
      refine s1 4 58 2 rfl rfl rfl rfl rfl rfl trivial ?_
      refine s1 5 66 3 rfl rfl rfl rfl rfl rfl trivial ?_
      refine e1 74 rfl ?_
      refine keep [4, 5] rfl ?_
      refine W_ret ?_
      refine br ?_
      refine tr ?_
      refine tr ?_
      refine br ?_
      refine tr ?_
      exact out2 4 5 (.d .nils) (SV.i (sfault (L.getD n []))) (π := []) (hout := []) Tryd.results13 rfl rfl rfl (by simp only [Int.toNat_natCast, Nat.zero_add]; rfl) rfl rfl trivial (by have h := faultsTo_at (L := L) (k := n) (n := L.length) (by omega) hno (by simpa using hc21); rw [ans_bad hL (by unfold firstE; rw [h]; simpa using hc21)]; unfold firstE; rw [h])
    · skip
      try simp only [cs, ne_eq] at hc21
      refine W_skip ?_
      refine bn ?_
      refine tn ?_
      refine r0 ?_
      refine sA 61 50 1 rfl rfl rfl rfl rfl rfl rfl rfl rfl (by unfold inRange; omega) ?_
      refine s1 54 58 2 rfl rfl rfl rfl rfl rfl trivial ?_
      refine e1 66 rfl ?_
      refine tn ?_
      exact again (n + 1) [0, 1] ⟨by omega, faultsTo_step hno (by simpa using hc21)⟩ (by omega) rfl ⟨rfl, rfl, rfl, rfl, trivial⟩ ⟨rfl, rfl, trivial⟩
  · skip
    try simp only [cs, ne_eq] at hc19
    refine W_exit ?_
    refine tx ?_
    refine tx ?_
    refine bx ?_
    refine tn ?_
    obtain rfl : n = L.length := (by omega)
    refine freeze 10 0 L.length rfl rfl (Nat.le_refl _) ?_
    refine r1 ?_
    refine s1 62 10 1 rfl rfl rfl rfl rfl rfl trivial ?_
    refine s1 4 18 2 rfl rfl rfl rfl rfl rfl trivial ?_
    refine s1 5 26 3 rfl rfl rfl rfl rfl rfl trivial ?_
    refine e1 34 rfl ?_
    refine keep [4, 5] rfl ?_
    refine W_ret ?_
    exact out2 4 5 (.d (.vec 1 L.length (fun i _ => whatE L i))) (SV.i 0) (π := []) (hout := []) Tryd.results13 rfl rfl rfl rfl rfl rfl trivial (ans_ok hL hno).symm

end Go.Proofs.YtpdojmebloekgaaDoor.Nice.Co

/- crew.Encode's each: the closer, the receive loop, the end. -/
namespace Go.Proofs.YtpdojmebloekgaaDoor.Nice.Co
open Go Go.Conc Go.Conc.Lib Go.ConcR.Gen
open Go.ConcR (KK WgAt stA smA mk DC0)
set_option linter.unusedVariables false
set_option linter.unusedSimpArgs false
set_option maxRecDepth 100000
set_option maxHeartbeats 4000000

def postE (L : List (List Smp)) (Pst : Value → World → Prop) : Tr Tryd.prog → SV → Prop := fun K r => r = encAns L ∧ Ends Pst K
def fO (L : List (List Smp)) (J : List Nat) : Nat → Nat → D := fun i _ => if i ∈ J then whatE L i else .nils
def fC (L : List (List Smp)) (J : List Nat) : Nat → Nat → D := fun i _ => if i ∈ J then .val (.int .i64 (sfault (L.getD i []))) else .val (.int .i64 0)
theorem upd_fO {L : List (List Smp)} {J : List Nat} {fo : Nat → Nat → D} {k i : Nat} {X : D} (h : ∀ i, i < L.length → fo i 0 = fO L J i 0) (hi : i < L.length) (hX : whatE L k = X) : updR fo (0 + (k : Int).toNat) 0 [X] i 0 = fO L (k :: J) i 0 := by
  unfold updR
  rw [Int.toNat_natCast, Nat.zero_add]
  by_cases e : i = k
  · subst e; simp [fO, hX]
  · simp [e, h i hi, fO]
theorem upd_fC {L : List (List Smp)} {J : List Nat} {fc : Nat → Nat → D} {k i : Nat} {x : Int} (h : ∀ i, i < L.length → fc i 0 = fC L J i 0) (hi : i < L.length) (hX : sfault (L.getD k []) = x) : updR fc (0 + (k : Int).toNat) 0 [.val (.int .i64 x)] i 0 = fC L (k :: J) i 0 := by
  unfold updR
  rw [Int.toNat_natCast, Nat.zero_add]
  subst hX
  by_cases e : i = k
  · subst e; simp [fC]
  · simp [e, h i hi, fC]
def tlR (n Ch : Nat) : List (Nat × SV) := [(10, .sl 0 0 n), (11, .sl 1 0 n), (36, .d (.val (.chan (some Ch))))]
def hlR (n : Nat) (fo fc : Nat → Nat → D) : List (Option Blk) := [some (.rows 39 1 n fo), some (.rows 24 1 n fc)]
theorem hR {J : List Nat} : Lo.recv J ≠ .out := by simp
theorem each13_b {Pst : Value → World → Prop} (L : List (List Smp)) (hL : L.length ≤ 100) (hin : ∀ l, l ∈ L → SmpIn l) (Wg Ch : Nat) (Rd : Blks) {π : List Nat} {σ : St} (hsub : Sub CE π σ (tlS L Wg Ch L.length) []) :
    WX CE rest13 (outQX CE Tryd.f13 (postE L Pst)) (trRun Tryd.prog (pE L Wg Ch) Pst true Rd 0 (.spawn L.length false) hS rfl) [] σ := by
  refine WX_sub π _ _ hsub ?_
  refine xX1 ?_
  refine RX_ops PZ.up [_] 0 _ (fun j hj => by simp at hj; subst hj; rfl) ?_
  refine s1 29 0 1 rfl rfl rfl rfl rfl rfl trivial ?_
  refine e1 16 rfl ?_
  refine RX_spawnC (p := pE L Wg Ch) PZ.up rfl rfl rfl rfl rfl ?_ (hl' := hR) (hm' := rfl) (closer28 (Nat.lt_of_le_of_lt hL (by omega))) fun Rd2 => ?_
  · exact fun y hy => List.all_eq_true.1 (show (clCaps (pE L Wg Ch)).all SV.dataB = true from rfl) y hy
  refine RX_end rfl rfl ?_
  refine xtn ?_
  refine x1 ?_
  refine s1 30 16 1 rfl rfl rfl rfl rfl rfl trivial ?_
  refine s1 31 24 2 rfl rfl rfl rfl rfl rfl trivial ?_
  refine s1 32 32 3 rfl rfl rfl rfl rfl rfl ⟨by omega, rfl, (by show (L.length : Int) * ((24 : Nat) : Int) ≤ ((140737488355328 : Nat) : Int); omega), by omega⟩ ?_
  refine s1 10 40 4 rfl rfl rfl rfl rfl rfl trivial ?_
  refine e1 48 rfl ?_
  refine x1 ?_
  refine s1 33 48 1 rfl rfl rfl rfl rfl rfl trivial ?_
  refine s1 34 56 2 rfl rfl rfl rfl rfl rfl trivial ?_
  refine s1 35 64 3 rfl rfl rfl rfl rfl rfl ⟨by omega, rfl, (by show (L.length : Int) * ((8 : Nat) : Int) ≤ ((140737488355328 : Nat) : Int); omega), by omega⟩ ?_
  refine s1 11 72 4 rfl rfl rfl rfl rfl rfl trivial ?_
  refine e1 80 rfl ?_
  refine WX_seq ?_
  refine x1 ?_
  refine s1 36 80 1 rfl rfl rfl rfl rfl rfl (by decide) ?_
  refine e1 88 rfl ?_
  refine WX_block ?_
  refine WX_loop0 (fun m K ds σ => ds = [] ∧ ∃ J Rd' π fo fc, m = miss J L.length ∧ K = trRun Tryd.prog (pE L Wg Ch) Pst true Rd' 0 (.recv J) hR rfl ∧ (∀ i, i < L.length → fo i 0 = fO L J i 0) ∧ (∀ i, i < L.length → fc i 0 = fC L J i 0) ∧ Sub CE π σ (tlR L.length Ch) (hlR L.length fo fc)) (miss [] L.length) ⟨rfl, [], Rd2, [32, 64], _, _, rfl, rfl, ?_, ?_, ⟨rfl, ⟨rfl, rfl, rfl, trivial⟩, ⟨rfl, rfl, trivial⟩⟩⟩ ?_
  · intro i hi; simp [fO]; rfl
  · intro i hi; simp [fC]; rfl
  rintro m K ds σ ⟨rfl, J, Rd', π', fo, fc, rfl, rfl, hfo, hfc, hsub'⟩
  refine WX_sub π' _ _ hsub' ?_
  refine xX1 ?_
  refine RX_recv (p := pE L Wg Ch) PZ.up rfl rfl rfl rfl Tryd.runUnderlying49 (fun w => by simp) Tryd.zeroValue62 (fun w => by simp) rfl (fun k => encT (L.getD k []) k) (fun k M v h => h) (hl1 := fun k => hR) (hm1 := fun k => rfl) (hl2 := by simp) (hm2 := rfl) (fun k Rd3 hk hkJ => ?_) (fun hall => ?_)
  · have hk : k < L.length := hk
    by_cases hz : sfault (L.getD k []) = 0
    · have e : encT (L.getD k []) k = .agg [SV.i k, .d (.vec 1 (encB (L.getD k [])).length (u8F (encB (L.getD k [])))), SV.i 0] := by unfold encT; rw [if_pos hz, hz]
      rw [e]
      refine RX_ops PZ.up [_] 1 _ (fun j hj => by simp at hj; subst hj; rfl) ?_
      refine s1 38 10 2 rfl rfl rfl rfl rfl rfl trivial ?_
      refine e1 18 rfl ?_
      refine RX_end rfl rfl ?_
      refine xtn ?_
      refine WX_seq ?_
      refine WX_cond rfl (fun _ => ?_) (fun hc => by cases hc)
      refine WX_skip ?_
      refine xtn ?_
      refine WX_block ?_
      refine x1 ?_
      refine s1 39 18 1 rfl rfl rfl rfl rfl rfl trivial ?_
      refine s1 12 26 2 rfl rfl rfl rfl rfl rfl trivial ?_
      refine s0 34 3 rfl rfl rfl rfl rfl trivial ?_
      refine e1 42 rfl ?_
      refine WX_keep [10, 11, 12, 36] rfl ?_
      refine xd0 (by kernel_rfl) ?_
      refine d1 40 42 1 rfl rfl rfl rfl rfl rfl trivial ?_
      refine d1 41 50 2 rfl rfl rfl rfl rfl rfl trivial ?_
      refine d1 42 58 3 rfl rfl rfl rfl rfl rfl trivial ?_
      refine d1 43 66 4 rfl rfl rfl rfl rfl rfl trivial ?_
      refine d1 44 74 5 rfl rfl rfl rfl rfl rfl trivial ?_
      refine d1 45 82 6 rfl rfl rfl rfl rfl rfl trivial ?_
      refine d1 46 90 7 rfl rfl rfl rfl rfl rfl trivial ?_
      refine d1 47 98 8 rfl rfl rfl rfl rfl rfl trivial ?_
      refine d1 48 106 9 rfl rfl rfl rfl rfl rfl trivial ?_
      refine d1 49 114 10 rfl rfl rfl rfl rfl rfl trivial ?_
      refine d1 50 122 11 rfl rfl rfl rfl rfl rfl (by omega) ?_
      refine d0 130 12 rfl rfl rfl rfl rfl (by first | trivial | omega) ?_
      refine d1 51 138 13 rfl rfl rfl rfl rfl rfl (by omega) ?_
      refine d0 146 14 rfl rfl rfl rfl rfl (by first | trivial | omega) ?_
      refine de1 154 rfl (by kernel_rfl) ?_
      refine xbn ?_
      exact ⟨miss (k :: J) L.length, miss_lt hkJ hk, rfl, k :: J, Rd3, [0, 1], _, _, rfl, rfl, (fun i hi => upd_fO hfo hi (by unfold whatE; rw [if_pos hz])), (fun i hi => upd_fC hfc hi (by rw [hz])), ⟨rfl, ⟨rfl, rfl, rfl, trivial⟩, ⟨rfl, rfl, trivial⟩⟩⟩
    · have e : encT (L.getD k []) k = .agg [SV.i k, .d .nils, SV.i (sfault (L.getD k []))] := by unfold encT; rw [if_neg hz]
      rw [e]
      refine RX_ops PZ.up [_] 1 _ (fun j hj => by simp at hj; subst hj; rfl) ?_
      refine s1 38 10 2 rfl rfl rfl rfl rfl rfl trivial ?_
      refine e1 18 rfl ?_
      refine RX_end rfl rfl ?_
      refine xtn ?_
      refine WX_seq ?_
      refine WX_cond rfl (fun _ => ?_) (fun hc => by cases hc)
      refine WX_skip ?_
      refine xtn ?_
      refine WX_block ?_
      refine x1 ?_
      refine s1 39 18 1 rfl rfl rfl rfl rfl rfl trivial ?_
      refine s1 12 26 2 rfl rfl rfl rfl rfl rfl trivial ?_
      refine s0 34 3 rfl rfl rfl rfl rfl trivial ?_
      refine e1 42 rfl ?_
      refine WX_keep [10, 11, 12, 36] rfl ?_
      refine xd0 (by kernel_rfl) ?_
      refine d1 40 42 1 rfl rfl rfl rfl rfl rfl trivial ?_
      refine d1 41 50 2 rfl rfl rfl rfl rfl rfl trivial ?_
      refine d1 42 58 3 rfl rfl rfl rfl rfl rfl trivial ?_
      refine d1 43 66 4 rfl rfl rfl rfl rfl rfl trivial ?_
      refine d1 44 74 5 rfl rfl rfl rfl rfl rfl trivial ?_
      refine d1 45 82 6 rfl rfl rfl rfl rfl rfl trivial ?_
      refine d1 46 90 7 rfl rfl rfl rfl rfl rfl trivial ?_
      refine d1 47 98 8 rfl rfl rfl rfl rfl rfl trivial ?_
      refine d1 48 106 9 rfl rfl rfl rfl rfl rfl trivial ?_
      refine d1 49 114 10 rfl rfl rfl rfl rfl rfl trivial ?_
      refine d1 50 122 11 rfl rfl rfl rfl rfl rfl (by omega) ?_
      refine d0 130 12 rfl rfl rfl rfl rfl (by first | trivial | omega) ?_
      refine d1 51 138 13 rfl rfl rfl rfl rfl rfl (by omega) ?_
      refine d0 146 14 rfl rfl rfl rfl rfl (by first | trivial | omega) ?_
      refine de1 154 rfl (by kernel_rfl) ?_
      refine xbn ?_
      exact ⟨miss (k :: J) L.length, miss_lt hkJ hk, rfl, k :: J, Rd3, [0, 1], _, _, rfl, rfl, (fun i hi => upd_fO hfo hi (by unfold whatE; rw [if_neg hz])), (fun i hi => upd_fC hfc hi rfl), ⟨rfl, ⟨rfl, rfl, rfl, trivial⟩, ⟨rfl, rfl, trivial⟩⟩⟩
  · refine RX_ops PZ.up [_] 1 _ (fun j hj => by simp at hj; subst hj; rfl) ?_
    refine s1 38 10 2 rfl rfl rfl rfl rfl rfl trivial ?_
    refine e1 18 rfl ?_
    refine RX_end rfl rfl ?_
    refine xtn ?_
    refine WX_seq ?_
    refine WX_cond rfl (fun hc => by cases hc) (fun _ => ?_)
    refine WX_exit ?_
    refine xtx ?_
    refine xtx ?_
    refine xbo ?_
    refine xtn ?_
    refine WX_rowsc 0 L.length (fun i _ => whatE L i) rfl rfl (fun i c hi hc => ?_) ?_
    · obtain rfl : c = 0 := by omega
      rw [hfo i hi]; unfold fO; rw [if_pos (hall i hi)]
    refine WX_rowsc 1 L.length (fun i _ => .val (.int .i64 (sfault (L.getD i [])))) rfl rfl (fun i c hi hc => ?_) ?_
    · obtain rfl : c = 0 := by omega
      rw [hfc i hi]; unfold fC; rw [if_pos (hall i hi)]
    refine WX_sub [0, 1] [(10, .sl 0 0 L.length), (11, .sl 1 0 L.length)] [some (.rows 39 1 L.length (fun i _ => whatE L i)), some (.rows 24 1 L.length (fun i _ => .val (.int .i64 (sfault (L.getD i [])))))] ⟨rfl, ⟨rfl, rfl, trivial⟩, ⟨rfl, rfl, trivial⟩⟩ (WX_last (tail13 L hL) ?_)
    rintro π r ho rfl
    rw [(ans_free L π).1]
    exact ⟨(ans_free L []).2, rfl, ends_fin⟩
end Go.Proofs.YtpdojmebloekgaaDoor.Nice.Co
