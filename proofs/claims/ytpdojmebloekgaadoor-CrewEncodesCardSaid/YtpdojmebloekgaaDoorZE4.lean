/- Part 4 of the proof of CrewEncodes: CoB, CoC, CoD, CoE, CoF, CoG. -/
import Derived.Test.YtpdojmebloekgaaDoorZE3
namespace Go.Proofs.YtpdojmebloekgaaDoor.Nice.Co
open Go Go.Conc
set_option linter.unusedVariables false
/-- Where it goes on behind a piece of code that is left this way. -/
def Aft {P : Program} (K : Tr P) (A : Blks) (b : Frame) (k : List Item) (cs : List Frame) : Exit → Act → World → Prop
  | .normal, a, w => K.T A (G (b.at a k) cs) w
  | .exit id, a, w => ∃ k', exitTo id k = some k' ∧ K.T A (G (b.at a k') cs) w
  | .ret, a, w => ∀ todo, K.T A (G { b.at a todo with mode := .returning } cs) w
  | _, _, _ => False
theorem Aft.push {P : Program} {K : Tr P} {A : Blks} {b : Frame} {x : Item} {k : List Item} {cs : List Frame} {e : Exit} {a : Act} {w : World} (hx : x.plain = true) (he : e ≠ .normal) (h : Aft K A b k cs e a w) : Aft K A b (x :: k) cs e a w := by
  cases e with
  | normal => exact absurd rfl he
  | exit id => obtain ⟨k', hk, hg⟩ := h; exact ⟨k', by cases x <;> simp_all [exitTo, Item.plain], hg⟩
  | ret => exact h
  | goto l => exact h
  | panic ch => exact h
  | outgrown => exact h
/-- What a state tells of frame and memory of such a goroutine. -/
structure SC (C : Ctx) (A Rd : Blks) (F M : Imm) (pin ρ : Names) (σ : St) (a : Act) (w : World) : Prop where
  fit : Fit A Rd F M w
  sr : SR C M (ext A Rd F w) pin ρ σ a w
/-- What holds of the state at a way out. -/
def Post {P : Program} (C : Ctx) (K : Tr P) (A0 : Blks) (M0 F : Imm) (pin : Names) (w0 : World) (Q : Exit → St → Prop) (b : Frame) (k : List Item) (cs : List Frame) : Prop :=
  ∀ e A M ρ σ a w, (∀ x, A0 x → A x) → M0.le M → SC C A K.Rd F M pin ρ σ a w → Same w0 w → Q e σ → Aft K A b k cs e a w
/-- From every frame and memory that the state describes the code comes, beside others, to an exit and a state that Q names. -/
def W (C : Ctx) (c : Code) (Q : Exit → St → Prop) (σ : St) : Prop :=
  ∀ (K : Tr C.P) A F M pin ρ a w, SC C A K.Rd F M pin ρ σ a w → ∀ b k cs, b.kind ≠ .early → Post C K A M F pin w Q b k cs → K.T A (G (b.at a (.code c :: k)) cs) w
section
variable {C : Ctx} {Q : Exit → St → Prop} {σ : St}
theorem W_mono {c : Code} {Q' : Exit → St → Prop} (h : W C c Q σ) (hq : ∀ e σ', Q e σ' → Q' e σ') : W C c Q' σ :=
  fun K A F M pin ρ a w hs b k cs hb hp => h K A F M pin ρ a w hs b k cs hb fun e A' M' ρ' σ' a' w' h1 h2 h3 h4 h5 => hp e A' M' ρ' σ' a' w' h1 h2 h3 h4 (hq _ _ h5)
theorem Post.now {C : Ctx} {P : Program} {K : Tr P} {A : Blks} {M F : Imm} {pin ρ : Names} {w : World} {Q : Exit → St → Prop} {b : Frame} {k : List Item} {cs : List Frame} {σ : St} {a : Act} (hp : Post C K A M F pin w Q b k cs) (hs : SC C A K.Rd F M pin ρ σ a w) {e : Exit} (h : Q e σ) : Aft K A b k cs e a w :=
  hp e A M ρ σ a w (fun _ h => h) (Imm.le_refl _) hs (.refl _) h
/-- What holds at the ways out, from a state further on. -/
theorem Post.on {C : Ctx} {P : Program} {K : Tr P} {A A' : Blks} {M M' F : Imm} {pin : Names} {w w' : World} {Q : Exit → St → Prop} {b : Frame} {k : List Item} {cs : List Frame} (hp : Post C K A M F pin w Q b k cs) (hA : ∀ x, A x → A' x) (hM : M.le M') (hw : Same w w') : Post C K A' M' F pin w' Q b k cs :=
  fun e A2 M2 ρ2 σ2 a2 w2 h1 h2 h3 h4 h5 => hp e A2 M2 ρ2 σ2 a2 w2 (fun x hx => h1 x (hA x hx)) (Imm.le_trans hM h2) h3 (hw.trans h4) h5
theorem W_skip (h : Q .normal σ) : W C .skip Q σ := fun K A F M pin ρ a w hs b k cs hb hp => K.idle rfl (fun _ => stepG_skip) (hp.now hs h)
theorem W_exit {id : Nat} (h : Q (.exit id) σ) : W C (.exit id) Q σ := fun K A F M pin ρ a w hs b k cs hb hp => by
  obtain ⟨k', hk, hg⟩ := hp.now hs h
  exact K.idle rfl (fun _ => stepG_exit hk) hg
theorem W_ret (h : Q .ret σ) : W C .ret Q σ := fun K A F M pin ρ a w hs b k cs hb hp => K.idle rfl (fun _ => stepG_ret') (hp.now hs h _)
theorem W_seq {x y : Code} (h : W C x (thenQ (W C y Q) Q) σ) : W C (.seq x y) Q σ := by
  intro K A F M pin ρ a w hs b k cs hb hp
  refine K.idle rfl (fun _ => stepG_seq) (h K A F M pin ρ a w hs b (.code y :: k) cs hb ?_)
  intro e A' M' ρ' σ' a' w' h1 h2 h3 h4 h5
  cases e with
  | normal => exact h5 K A' F M' pin ρ' a' w' h3 b k cs hb (hp.on h1 h2 h4)
  | exit id => exact Aft.push (x := .code y) rfl (by simp) (hp (.exit id) A' M' ρ' σ' a' w' h1 h2 h3 h4 h5)
  | goto l => exact hp (.goto l) A' M' ρ' σ' a' w' h1 h2 h3 h4 h5
  | ret => exact hp .ret A' M' ρ' σ' a' w' h1 h2 h3 h4 h5
  | panic ch => exact hp (.panic ch) A' M' ρ' σ' a' w' h1 h2 h3 h4 h5
  | outgrown => exact hp .outgrown A' M' ρ' σ' a' w' h1 h2 h3 h4 h5
theorem W_cond {c : Operand} {x y : Code} {t : Bool} (hc : opv C σ.t c = SV.b t) (ht : t = true → W C x Q σ) (hf : t = false → W C y Q σ) : W C (.cond c x y) Q σ := by
  intro K A F M pin ρ a w hs b k cs hb hp
  have hv := opv_rel hs.sr.toSR0 c
  rw [hc] at hv
  refine K.idle rfl (fun _ => stepG_cond hv.bool) ?_
  cases t with
  | true => exact ht rfl K A F M pin ρ a w hs b k cs hb hp
  | false => exact hf rfl K A F M pin ρ a w hs b k cs hb hp
theorem W_block {id : Nat} {c : Code} (h : W C c (inBlockQ id Q) σ) : W C (.block id c) Q σ := by
  intro K A F M pin ρ a w hs b k cs hb hp
  refine K.idle rfl (fun _ => stepG_block) (h K A F M pin ρ a w hs b (.inBlock id :: k) cs hb ?_)
  intro e A' M' ρ' σ' a' w' h1 h2 h3 h4 h5
  cases e with
  | normal => exact K.idle rfl (fun _ => stepG_inBlock) (hp .normal A' M' ρ' σ' a' w' h1 h2 h3 h4 h5)
  | exit id' =>
    simp only [inBlockQ] at h5
    by_cases hid : id' = id
    · rw [if_pos hid] at h5
      exact ⟨k, by simp [exitTo, hid], hp .normal A' M' ρ' σ' a' w' h1 h2 h3 h4 h5⟩
    · rw [if_neg hid] at h5
      obtain ⟨k', hk, hg⟩ := hp (.exit id') A' M' ρ' σ' a' w' h1 h2 h3 h4 h5
      have : (id == id') = false := by simp; exact fun h => hid h.symm
      exact ⟨k', by simp [exitTo, this, hk], hg⟩
  | goto l => exact hp (.goto l) A' M' ρ' σ' a' w' h1 h2 h3 h4 h5
  | ret => exact hp .ret A' M' ρ' σ' a' w' h1 h2 h3 h4 h5
  | panic ch => exact hp (.panic ch) A' M' ρ' σ' a' w' h1 h2 h3 h4 h5
  | outgrown => exact hp .outgrown A' M' ρ' σ' a' w' h1 h2 h3 h4 h5
/-- A loop: 'I' holds of the state at each round's head. -/
theorem W_loop0 {c : Code} (I : Nat → St → Prop) (n : Nat) (h0 : I n σ)
    (round : ∀ n σ, I n σ → W C c (thenQ (fun σ' => ∃ k, k < n ∧ I k σ') Q) σ) : W C (.loop c) Q σ := by
  intro K A F M pin ρ a w hs b k cs hb hp
  have key : ∀ n σ A M ρ a w, I n σ → SC C A K.Rd F M pin ρ σ a w → Post C K A M F pin w Q b k cs → K.T A (G (b.at a (.code c :: .inLoop c :: k)) cs) w := by
    intro n
    induction n using Nat.strongRecOn with
    | _ n ih =>
      intro σ A M ρ a w hI hs hp
      refine round n σ hI K A F M pin ρ a w hs b (.inLoop c :: k) cs hb ?_
      intro e A' M' ρ' σ' a' w' h1 h2 h3 h4 h5
      cases e with
      | normal =>
        obtain ⟨j, hj, hI'⟩ := h5
        exact K.idle rfl (fun _ => stepG_inLoop) (ih j hj σ' A' M' ρ' a' w' hI' h3 (hp.on h1 h2 h4))
      | exit id => exact Aft.push (x := .inLoop c) rfl (by simp) (hp (.exit id) A' M' ρ' σ' a' w' h1 h2 h3 h4 h5)
      | goto l => exact hp (.goto l) A' M' ρ' σ' a' w' h1 h2 h3 h4 h5
      | ret => exact hp .ret A' M' ρ' σ' a' w' h1 h2 h3 h4 h5
      | panic ch => exact hp (.panic ch) A' M' ρ' σ' a' w' h1 h2 h3 h4 h5
      | outgrown => exact hp .outgrown A' M' ρ' σ' a' w' h1 h2 h3 h4 h5
  exact K.idle rfl (fun _ => stepG_loop) (key n σ A M ρ a w h0 hs hp)
theorem SC.sub {A Rd : Blks} {F M : Imm} {pin ρ : Names} {a : Act} {w : World} {π : List Nat} {tl : List (Nat × SV)} {hl : List (Option Blk)} (hs : SC C A Rd F M pin ρ σ a w) (hsub : Sub C π σ tl hl) : SC C A Rd F M pin (back π ρ) (stOf tl hl) a w :=
  ⟨hs.fit, hsub.rel hs.sr.toSR0⟩
theorem W_sub {c : Code} (π : List Nat) (tl : List (Nat × SV)) (hl : List (Option Blk)) (hsub : Sub C π σ tl hl) (h : W C c Q (stOf tl hl)) : W C c Q σ :=
  fun K A F M pin ρ a w hs b k cs hb hp => h K A F M pin _ a w (hs.sub hsub) b k cs hb hp
/-- The state told otherwise. -/
theorem W_turn {c : Code} {σ' : St} (ht : ∀ M F pin ρ a w, SR C M F pin ρ σ a w → ∃ M' ρ', M.le M' ∧ SR C M' F pin ρ' σ' a w) (h : W C c Q σ') : W C c Q σ := by
  intro K A F M pin ρ a w hs b k cs hb hp
  obtain ⟨M', ρ', h1, h2⟩ := ht M _ pin ρ a w hs.sr
  have hf : Fit A K.Rd F M' w := ⟨hs.fit.fa, fun b hb => by
    obtain ⟨o, ho⟩ := Option.ne_none_iff_exists'.1 (hs.fit.rm b hb)
    rw [h1 b o ho]; simp, hs.fit.lt⟩
  exact h K A F M' pin ρ' a w ⟨hf, h2⟩ b k cs hb (hp.on (fun _ h => h) h1 (.refl _))
/-- A loop by lists that hang on a ghost. -/
theorem W_loop {c : Code} {α : Type} (tl : α → List (Nat × SV)) (hl : α → List (Option Blk)) (I : α → Prop) (μ : α → Nat) (x0 : α) (π : List Nat)
    (h0 : I x0) (hsub : Sub C π σ (tl x0) (hl x0))
    (round : ∀ x, I x → W C c (thenQ (fun σ' => ∃ x' π, I x' ∧ μ x' < μ x ∧ Sub C π σ' (tl x') (hl x')) Q) (stOf (tl x) (hl x))) : W C (.loop c) Q σ := by
  refine W_loop0 (fun n σ' => ∃ x π, I x ∧ μ x = n ∧ Sub C π σ' (tl x) (hl x)) (μ x0) ⟨x0, π, h0, rfl, hsub⟩ ?_
  rintro n σ' ⟨x, π', hx, rfl, hsub'⟩
  refine W_sub π' _ _ hsub' (W_mono (round x hx) ?_)
  intro e σ'' hq
  cases e with
  | normal =>
    obtain ⟨x', p, h1, h2, h3⟩ := hq
    exact ⟨_, h2, x', p, h1, rfl, h3⟩
  | _ => exact hq
end
end Go.Proofs.YtpdojmebloekgaaDoor.Nice.Co
namespace Go.Proofs.YtpdojmebloekgaaDoor.Nice.Co
open Go Go.Conc
set_option linter.unusedVariables false
set_option linter.unusedSimpArgs false
/-- What one operation does, beside others, wherever its operands and the blocks that it looks into are as told. -/
def OpOK (C : Ctx) (o : Oper) (nm : Nat) (v : Operand → SV) (bs : List (Nat × Blk)) (RS : SV → List (Nat × Option Blk) → Prop) : Prop :=
  ∀ (K : Tr C.P) A F M ρ a h w, Fit A K.Rd F M w → (∀ x, x ∈ o.op.operands → VR M ρ (v x) (a.eval x)) → (∀ g ρ, VR M ρ (C.G g) (.pointer (some ⟨g, 0, none⟩))) → HR M (ext A K.Rd F w) ρ h w → (∀ p, p ∈ bs → h p.1 = some p.2) → (∀ n, nm ≤ n → n < nm + 8 → ρ n = none) →
    ∀ (gd : Option (Nat × Bool)) (b : Frame) (ops : Array Oper) (i : Nat) (rest : List Nat) (k : List Item) (cs : List Frame), ops[i]? = some { o with guard := gd } → Region.wanted { o with guard := gd } (yielded ops a.tmps) = true → b.kind ≠ .early →
      (∀ A' M' ρ' u wr u' w', (∀ x, A x → A' x) → M.le M' → ρ.le ρ' → (∀ n, n < nm ∨ nm + 8 ≤ n → ρ' n = ρ n) → RS u wr → VR M' ρ' u u' → Fit A' K.Rd F M' w' → HR M' (ext A' K.Rd F w') ρ' (wrH h wr) w' → Same w w' → K.T A' (G (b.at (a.put o.dst u') (.inRegion ops rest :: k)) cs) w') →
      K.T A (G (b.at a (.inRegion ops (i :: rest) :: k)) cs) w
def D1 (C : Ctx) (ops : List Oper) (nm : Nat) (o : Oper) (σ : St) (fp : FP) (σ' : St) : Prop :=
  dstOK C o = true ∧
  ((gOn ops σ.t o ∧ ∃ bs u wr, OpOK C o nm (opv C σ.t) bs (fun x y => x = u ∧ y = wr) ∧ (∀ p, p ∈ bs → σ.h p.1 = some p.2) ∧ keysIn bs nm wr = true ∧
      fp = (bs.map (·.1), wr.map (·.1)) ∧ σ' = σ.app o.dst u wr) ∨
   (gOff ops σ.t o ∧ fp = ([], []) ∧ σ' = σ.app o.dst (.tup []) []))
/-- The operations one behind the other: 'acc' gathers what each looks at and writes, where the region draws its order. -/
def wops (C : Ctx) (ops0 : List Oper) : Nat → List Oper → St → Option (List FP) → (St → Prop) → Prop
  | _, [], σ, acc, K => chk ops0 acc ∧ K ⟨σ.t, σ.h, σ.nx + 8 * ops0.length⟩
  | i, o :: l, σ, acc, K =>
    (∃ fp σ', D1 C ops0 (σ.nx + 8 * i) o σ fp σ' ∧ wops C ops0 (i + 1) l σ' (acc.map (· ++ [fp])) K) ∨
    (acc = none ∧ dstOK C o = true ∧ gOn ops0 σ.t o ∧ ∃ bs RS, OpOK C o (σ.nx + 8 * i) (opv C σ.t) bs RS ∧ (∀ p, p ∈ bs → σ.h p.1 = some p.2) ∧
      ∀ u wr, RS u wr → wops C ops0 (i + 1) l (σ.app o.dst u wr) none K)
theorem D1_same {C : Ctx} {ops : List Oper} {nm : Nat} {o : Oper} {σ τ : St} {fp : FP} {σ' : St} (h : D1 C ops nm o σ fp σ')
    (hv : ∀ y, y ∈ o.op.operands → opv C τ.t y = opv C σ.t y) (hg : ∀ j want s, o.guard = some (j, want) → gslot ops j = some s → τ.t s = σ.t s) (hh : ∀ n, n ∈ fp.1 → τ.h n = σ.h n) :
    ∃ u wr, wr.map (·.1) = fp.2 ∧ σ' = σ.app o.dst u wr ∧ D1 C ops nm o τ fp (τ.app o.dst u wr) := by
  obtain ⟨hd, h⟩ := h
  rcases h with ⟨hgo, bs, u, wr, hok, hbs, hk, rfl, rfl⟩ | ⟨hgo, rfl, rfl⟩
  · refine ⟨u, wr, rfl, rfl, hd, .inl ⟨?_, bs, u, wr, ?_, ?_, hk, rfl, rfl⟩⟩
    · unfold gOn at *
      cases e : o.guard with
      | none => trivial
      | some p => obtain ⟨j, want⟩ := p; rw [e] at hgo; obtain ⟨s, h1, h2⟩ := hgo; exact ⟨s, h1, (hg j want s e h1).trans h2⟩
    · intro K A F M ρ a h w hf hx
      exact hok K A F M ρ a h w hf fun y hy => by rw [← hv y hy]; exact hx y hy
    · intro p hp
      rw [hh p.1 (List.mem_map.2 ⟨p, hp, rfl⟩)]; exact hbs p hp
  · refine ⟨.tup [], [], rfl, rfl, hd, .inr ⟨?_, rfl, rfl⟩⟩
    unfold gOff at *
    cases e : o.guard with
    | none => rw [e] at hgo; exact hgo
    | some p => obtain ⟨j, want⟩ := p; rw [e] at hgo; obtain ⟨s, h1, h2⟩ := hgo; exact ⟨s, h1, (match h2 with | .inl h3 => .inl ((hg j want s e h1).trans h3) | .inr h3 => .inr ((hg j want s e h1).trans h3))⟩
/-- Two operations that do not touch each other may change places. -/
theorem D1_swap {C : Ctx} {ops : List Oper} {n1 n2 : Nat} {x y : Oper} {σ σ1 σ2 : St} {f g : FP} (hi : indepB ops x y f g = true)
    (h1 : D1 C ops n1 x σ f σ1) (h2 : D1 C ops n2 y σ1 g σ2) : ∃ τ, D1 C ops n2 y σ g τ ∧ D1 C ops n1 x τ f σ2 := by
  obtain ⟨i1, i2, i3, i4, i5⟩ := indepB_spec hi
  obtain ⟨u, wr, hw, rfl, _⟩ := D1_same (τ := σ) h1 (fun _ _ => rfl) (fun _ _ _ _ _ => rfl) (fun _ _ => rfl)
  obtain ⟨v, wr2, hw2, rfl, k2⟩ := D1_same (τ := σ) h2 (fun z hz => (opv_app (t := σ.t) i1 z hz).symm) (fun j want s hg hs => (guard_app (t := σ.t) (u := u) i1 j want s hg hs).symm)
    (fun n hn => (wrH_get σ.h wr n fun p hp e => (i4 p.1 (hw ▸ List.mem_map.2 ⟨p, hp, rfl⟩)).1 (e ▸ hn)).symm)
  refine ⟨_, k2, ?_⟩
  obtain ⟨u', wr', hw', he, k1⟩ := D1_same (τ := σ.app y.dst v wr2) h1 (fun z hz => opv_app (t := σ.t) i3 z hz) (fun j want s hg hs => guard_app (t := σ.t) (u := v) i3 j want s hg hs)
    (fun n hn => wrH_get σ.h wr2 n fun p hp e => i5 p.1 (hw2 ▸ List.mem_map.2 ⟨p, hp, rfl⟩) (e ▸ hn))
  have e2 : (σ.app x.dst u wr).app y.dst v wr2 = (σ.app x.dst u' wr').app y.dst v wr2 := by rw [he]
  rw [e2, app_comm σ (fun d hd he => i2 d hd he) (by rw [hw', hw2]; exact fun n hn => (i4 n hn).2)]
  exact k1
/-- The operations of a list of places, each with the footprint that 'fps' tells. -/
def Runs (C : Ctx) (ops : List Oper) (fps : List FP) (nx : Nat) : List Nat → St → St → Prop
  | [], σ, τ => σ = τ
  | i :: l, σ, τ => ∃ o f σ', ops[i]? = some o ∧ fps[i]? = some f ∧ D1 C ops (nx + 8 * i) o σ f σ' ∧ Runs C ops fps nx l σ' τ
theorem Runs_front {C : Ctx} {ops : List Oper} {fps : List FP} {nx i : Nat} {oi : Oper} {fi : FP} (ho : ops[i]? = some oi) (hf : fps[i]? = some fi) :
    ∀ (A B : List Nat) (σ τ : St), (∀ j, j ∈ A → ∀ o f, ops[j]? = some o → fps[j]? = some f → indepB ops o oi f fi = true) → Runs C ops fps nx (A ++ i :: B) σ τ →
      Runs C ops fps nx (i :: (A ++ B)) σ τ
  | [], B, σ, τ, _, h => h
  | j :: A, B, σ, τ, hA, h => by
    obtain ⟨o, f, σ1, h1, h2, h3, h4⟩ := h
    obtain ⟨o', f', σ2, k1, k2, k3, k4⟩ := Runs_front ho hf A B σ1 τ (fun j hj => hA j (List.mem_cons_of_mem _ hj)) h4
    rw [ho] at k1; rw [hf] at k2
    obtain rfl := Option.some.inj k1
    obtain rfl := Option.some.inj k2
    obtain ⟨τ1, t1, t2⟩ := D1_swap (hA j (List.mem_cons_self ..) o f h1 h2) h3 k3
    exact ⟨oi, fi, τ1, ho, hf, t1, o, f, σ2, h1, h2, t2, k4⟩
theorem wops_runs {C : Ctx} {ops : List Oper} {K : St → Prop} : ∀ (l : List Oper) (i : Nat) (σ : St) (acc : List FP), acc.length = i → (∀ j, l[j]? = ops[i + j]?) →
    wops C ops i l σ (some acc) K → ∃ fps τ, fps.take i = acc ∧ fpOK ops fps = true ∧ Runs C ops fps σ.nx (List.range' i l.length) σ τ ∧ τ.nx = σ.nx ∧ K ⟨τ.t, τ.h, τ.nx + 8 * ops.length⟩ := by
  intro l
  induction l with
  | nil =>
    intro i σ acc hi hl h
    obtain ⟨hc, hK⟩ := h
    exact ⟨acc, σ, by rw [← hi, List.take_length], hc, rfl, rfl, hK⟩
  | cons o l ih =>
    intro i σ acc hi hl h
    unfold wops at h
    rcases h with ⟨fp, σ', hD, hrest⟩ | ⟨h0, _⟩
    · have hnx : σ'.nx = σ.nx := by
        obtain ⟨_, h⟩ := hD
        rcases h with ⟨_, _, _, _, _, _, _, _, rfl⟩ | ⟨_, _, rfl⟩ <;> rfl
      obtain ⟨fps, τ, h1, h2, h3, h4, h5⟩ := ih (i + 1) σ' (acc ++ [fp]) (by simp [hi]) (fun j => by have := hl (j + 1); simp at this; rw [this]; congr 1; omega) hrest
      have hlen : i < fps.length := by
        have := congrArg List.length h1
        simp at this; omega
      have htake : fps.take i = acc := by
        have := congrArg (List.take i) h1
        rw [List.take_take, Nat.min_eq_left (by omega), ← hi, List.take_left] at this
        rw [← hi]; exact this
      have hget : fps[i]? = some fp := by
        have := congrArg (fun l => l[i]?) h1
        simp only [List.getElem?_take] at this
        rw [if_pos (by omega), List.getElem?_append_right (by omega)] at this
        simpa [hi] using this
      refine ⟨fps, τ, htake, h2, ?_, h4.trans hnx, h5⟩
      rw [List.length_cons, List.range'_succ]
      refine ⟨o, fp, σ', ?_, hget, hD, ?_⟩
      · have := hl 0; simpa using this.symm
      · rw [hnx] at h3; exact h3
    · cases h0
theorem SC.app {C : Ctx} {A A' Rd : Blks} {M M' F : Imm} {pin ρ ρ' : Names} {σ : St} {a : Act} {w w' : World} (hs : SR0 C M (ext A Rd F w) pin ρ σ a w) {o : Oper} (hd : dstOK C o = true) {u : SV} {wr : List (Nat × Option Blk)} {u' : Value}
    (hM : M.le M') (hρ : ρ.le ρ') (hv : VR M' ρ' u u') (hh : HR M' (ext A' Rd F w') ρ' (wrH σ.h wr) w') : SR0 C M' (ext A' Rd F w') pin ρ' (σ.app o.dst u wr) (a.put o.dst u') w' := by
  refine ⟨fun k => ?_, ?_, ?_, hh, Names.le_trans hs.pn hρ, hs.pm, fun g ρ => (hs.gl g ρ).mono hM (Names.le_refl _)⟩
  · cases ho : o.dst with
    | none => exact (hs.tm k).mono hM hρ
    | some d =>
      have hlt : d < a.tmps.size := by rw [hs.sz]; simpa [dstOK, ho] using hd
      show VR M' ρ' (upd σ.t d u k) _
      rw [upd_eq]
      split
      · next e => subst e; rw [getD_put_same hlt]; exact hv
      · next e => rw [getD_put_other e]; exact (hs.tm k).mono hM hρ
  · cases o.dst <;> simp [Act.put, hs.sz]
  · cases o.dst <;> simp [Act.put, hs.df]
theorem wops_text {C : Ctx} (K : Tr C.P) {ops : Array Oper} {Kf : St → Prop} {M0 F : Imm} {pin : Names} {A0 : Blks} {w0 : World} {b : Frame} {k : List Item} {cs : List Frame} (hb : b.kind ≠ .early)
    (hfin : ∀ A' M' ρ' σ' a' w', (∀ x, A0 x → A' x) → M0.le M' → SC C A' K.Rd F M' pin ρ' σ' a' w' → Same w0 w' → Kf σ' → K.T A' (G (b.at a' k) cs) w') :
    ∀ (l : List Oper) (i : Nat) (σ : St) (A : Blks) (M : Imm) (ρ : Names) (a : Act) (w : World), l = ops.toList.drop i → i ≤ ops.size → (∀ x, A0 x → A x) → M0.le M → Same w0 w → Fit A K.Rd F M w → SR0 C M (ext A K.Rd F w) pin ρ σ a w → (∀ n, σ.nx + 8 * i ≤ n → ρ n = none) →
      wops C ops.toList i l σ none Kf → K.T A (G (b.at a (.inRegion ops (List.range' i l.length) :: k)) cs) w := by
  intro l
  induction l with
  | nil =>
    intro i σ A M ρ a w hl hi hA hM hw hf hs hfr h
    obtain ⟨_, hK⟩ := h
    have hie : i = ops.size := by
      have := congrArg List.length hl
      simp at this; omega
    refine K.idle rfl (fun _ => stepG_region_end) (hfin A M ρ ⟨σ.t, σ.h, σ.nx + 8 * ops.toList.length⟩ a w hA hM ⟨hf, ⟨⟨hs.tm, hs.sz, hs.df, hs.hr, hs.pn, hs.pm, hs.gl⟩, ?_⟩⟩ hw hK)
    intro n hn
    have hn' : σ.nx + 8 * ops.toList.length ≤ n := hn
    exact hfr n (by simp at hn'; omega)
  | cons o l ih =>
    intro i σ A M ρ a w hl hi hA hM hw hf hs hfr h
    have ho : ops[i]? = some o := by
      have := congrArg (fun l => l[0]?) hl
      simp [List.getElem?_drop] at this
      exact this.symm
    have hlt : i < ops.size := (Array.getElem?_eq_some_iff.1 ho).1
    have hl' : l = ops.toList.drop (i + 1) := by
      have := congrArg List.tail hl
      simpa using this
    rw [List.length_cons, List.range'_succ]
    have on : ∀ (hd : dstOK C o = true) (hg : gOn ops.toList σ.t o) bs RS, OpOK C o (σ.nx + 8 * i) (opv C σ.t) bs RS → (∀ p, p ∈ bs → σ.h p.1 = some p.2) →
        (∀ u wr, RS u wr → wops C ops.toList (i + 1) l (σ.app o.dst u wr) none Kf) → K.T A (G (b.at a (.inRegion ops (i :: List.range' (i + 1) l.length) :: k)) cs) w := by
      intro hd hg bs RS hok hbs hnext
      refine hok K A F M ρ a σ.h w hf (fun x _ => opv_rel hs x) hs.gl hs.hr hbs (fun n h1 h2 => hfr n h1) o.guard b ops i _ k cs ho (wanted_on hs hg) hb ?_
      intro A' M' ρ' u wr u' w' h0 h1 h2 h3 h4 h5 h5f h6 h7
      refine ih (i + 1) _ A' M' ρ' _ w' hl' hlt (fun x hx => h0 x (hA x hx)) (Imm.le_trans hM h1) (hw.trans h7) h5f (SC.app hs hd h1 h2 h5 h6) ?_ (hnext u wr h4)
      intro n hn
      have hn' : σ.nx + 8 * (i + 1) ≤ n := hn
      rw [h3 n (.inr (by omega))]
      exact hfr n (by omega)
    unfold wops at h
    rcases h with ⟨fp, σ', ⟨hd, hD⟩, hrest⟩ | ⟨_, hd, hg, bs, RS, hok, hbs, hnext⟩
    · rcases hD with ⟨hg, bs, u, wr, hok, hbs, _, _, rfl⟩ | ⟨hg, _, rfl⟩
      · exact on hd hg bs _ hok hbs (fun u' wr' ⟨e1, e2⟩ => by subst e1; subst e2; exact hrest)
      · refine K.idle rfl (fun _ => stepG_unwanted ho (wanted_off hs hg)) ?_
        refine ih (i + 1) _ A M ρ _ w hl' hlt hA hM hw hf (SC.app hs (wr := []) hd (Imm.le_refl _) (Names.le_refl _) VR.skip hs.hr) ?_ hrest
        intro n hn
        have hn' : σ.nx + 8 * (i + 1) ≤ n := hn
        exact hfr n (by omega)
    · exact on hd hg bs RS hok hbs hnext
theorem W_region {C : Ctx} {id : Nat} {ops : Array Oper} {Q : Exit → St → Prop} {σ : St} (h : wops C ops.toList 0 ops.toList σ none (fun σ' => Q .normal σ')) : W C (.region id ops false) Q σ := by
  intro K A F M pin ρ a w hs b k cs hb hp
  refine K.idle rfl (fun _ => stepG_region) ?_
  have := wops_text K (Kf := fun σ' => Q .normal σ') (M0 := M) (F := F) (pin := pin) (A0 := A) (w0 := w) hb (fun A' M' ρ' σ' a' w' h1 h2 h3 h4 h5 => hp .normal A' M' ρ' σ' a' w' h1 h2 h3 h4 h5) ops.toList 0 σ A M ρ a w rfl (Nat.zero_le _) (fun _ h => h) (Imm.le_refl _) (.refl _) hs.fit hs.sr.toSR0 (fun n hn => hs.sr.fr n (by omega)) h
  rw [List.range_eq_range']
  simpa using this
theorem wops_any {C : Ctx} (K : Tr C.P) {ops : Array Oper} {fps : List FP} {Kf : St → Prop} {M0 F : Imm} {pin : Names} {A0 : Blks} {w0 : World} {nx : Nat} {b : Frame} {kk : List Item} {cs : List Frame} (hb : b.kind ≠ .early)
    (hok : fpOK ops.toList fps = true)
    (hfin : ∀ A' M' ρ' σ' a' w', (∀ x, A0 x → A' x) → M0.le M' → SC C A' K.Rd F M' pin ρ' σ' a' w' → Same w0 w' → Kf σ' → K.T A' (G (b.at a' kk) cs) w') :
    ∀ (fuel tt : Nat) (l : List Nat) (listed : Array Bool) (σ τ : St) (A : Blks) (M : Imm) (ρ : Names) (a : Act) (w : World), l.length = fuel → l.Pairwise (· < ·) → listed.size = ops.size →
      (∀ i, i ∈ l ↔ i < ops.size ∧ listed.getD i true = false) →
      (∀ (i : Nat) (o : Oper), ops[i]? = some o → listed.getD i false = true → ∀ e, e ∈ edgesOf o → listed.getD e false = true) →
      (∀ x, A0 x → A x) → M0.le M → Same w0 w → Fit A K.Rd F M w → SR0 C M (ext A K.Rd F w) pin ρ σ a w → σ.nx = nx → (∀ i, i ∈ l → ∀ n, nx + 8 * i ≤ n → n < nx + 8 * i + 8 → ρ n = none) → (∀ n, nx + 8 * ops.size ≤ n → ρ n = none) →
      Runs C ops.toList fps nx l σ τ → Kf ⟨τ.t, τ.h, nx + 8 * ops.toList.length⟩ → K.T A (G (b.at a (.inRegion ops (Region.linearise.go .any ops fuel tt listed []) :: kk)) cs) w := by
  simp only [fpOK, Bool.and_eq_true] at hok
  obtain ⟨_, hall⟩ := hok
  have hget := allOK_get _ hall
  have hback : ∀ (i : Nat) (o : Oper), ops.toList[i]? = some o → ∀ e, e ∈ edgesOf o → e < i := by
    intro i o ho e he
    obtain ⟨o', f, h1, _, h2, _⟩ := hget i (List.getElem?_eq_some_iff.1 ho).1
    rw [ho] at h1; obtain rfl := Option.some.inj h1
    exact h2 e he
  have noready : ∀ (l : List Nat) (listed : Array Bool), l.Pairwise (· < ·) → listed.size = ops.size → (∀ i, i ∈ l ↔ i < ops.size ∧ listed.getD i true = false) → Region.ready .any ops listed = [] → l = [] := by
    intro l listed hp hsz hl hr
    cases l with
    | nil => rfl
    | cons i l =>
      exfalso
      obtain ⟨hi, hli⟩ := (hl i).1 (List.mem_cons_self ..)
      have : i ∈ Region.ready .any ops listed := by
        refine ready_iff.2 ⟨hi, hli, ops[i], Array.getElem?_eq_getElem hi, ?_⟩
        intro e he
        have hlt := hback i ops[i] (by simp [hi]) e he
        cases hb : listed.getD e true with
        | true =>
          have he' : e < listed.size := by omega
          simpa [Array.getD, he'] using hb
        | false =>
          have hm : e ∈ i :: l := (hl e).2 ⟨by omega, hb⟩
          rcases List.mem_cons.1 hm with h | h
          · omega
          · have := (List.pairwise_cons.1 hp).1 e h; omega
      rw [hr] at this; cases this
  have finish : ∀ (σ τ : St) (A : Blks) (M : Imm) (ρ : Names) (a : Act) (w : World), (∀ x, A0 x → A x) → M0.le M → Same w0 w → Fit A K.Rd F M w → SR0 C M (ext A K.Rd F w) pin ρ σ a w → σ.nx = nx →
      (∀ n, nx + 8 * ops.size ≤ n → ρ n = none) → σ = τ → Kf ⟨τ.t, τ.h, nx + 8 * ops.toList.length⟩ → K.T A (G (b.at a (.inRegion ops [] :: kk)) cs) w := by
    intro σ τ A M ρ a w hA hM hw hft hs hn hf e hK
    subst e
    refine K.idle rfl (fun _ => stepG_region_end) (hfin A M ρ ⟨σ.t, σ.h, nx + 8 * ops.toList.length⟩ a w hA hM ⟨hft, ⟨⟨hs.tm, hs.sz, hs.df, hs.hr, hs.pn, hs.pm, hs.gl⟩, ?_⟩⟩ hw hK)
    intro n hn'
    exact hf n (by simpa using hn')
  intro fuel
  induction fuel with
  | zero =>
    intro tt l listed σ τ A M ρ a w hlen hp hsz hl hdown hA hM hw hft hs hn hf1 hf2 hr hK
    have hnil : l = [] := List.length_eq_zero_iff.1 hlen
    subst hnil
    simp only [Region.linearise.go, List.reverse_nil]
    exact finish σ τ A M ρ a w hA hM hw hft hs hn hf2 hr hK
  | succ fuel ih =>
    intro tt l listed σ τ A M ρ a w hlen hp hsz hl hdown hA hM hw hft hs hn hf1 hf2 hr hK
    simp only [Region.linearise.go]
    change K.T A (G (b.at a (.inRegion ops (match (Region.ready .any ops listed)[tt % (Region.ready .any ops listed).length]? with
      | some i => Region.linearise.go .any ops fuel (tt / (Region.ready .any ops listed).length) (listed.setIfInBounds i true) [i]
      | none => [].reverse) :: kk)) cs) w
    cases hi : (Region.ready .any ops listed)[tt % (Region.ready .any ops listed).length]? with
    | none =>
      exfalso
      have hnil : Region.ready .any ops listed = [] := by
        cases hr : Region.ready .any ops listed with
        | nil => rfl
        | cons x xs =>
          rw [hr] at hi
          have hlt : tt % (x :: xs).length < (x :: xs).length := Nat.mod_lt _ (by simp)
          simp at hi
          simp at hlt
          omega
      have := noready l listed hp hsz hl hnil
      subst this
      simp at hlen
    | some i =>
      replace hi := List.mem_of_getElem? hi
      simp only []
      rw [linearise_go_acc, List.reverse_singleton, List.singleton_append]
      obtain ⟨hlt, hli, o, ho, hpre⟩ := ready_iff.1 hi
      have him : i ∈ l := (hl i).2 ⟨hlt, hli⟩
      obtain ⟨LA, LB, rfl, hLA⟩ := split_at_mem him
      have hoL : ops.toList[i]? = some o := by simpa using ho
      obtain ⟨o', f, h1, hfi, h3, h4⟩ := hget i (by simpa using hlt)
      rw [hoL] at h1; obtain rfl := Option.some.inj h1
      have hnot : ∀ j, j ∈ LA → j ∉ (reach ops.toList).getD i [] := by
        intro j hj hjr
        have hL := reach_listed (ops := ops.toList) (L := fun k => listed.getD k false = true) hback (fun k o hk => hdown k o (by simpa using hk)) i o hoL hpre j hjr
        have := ((hl j).1 (List.mem_append_left _ hj)).2
        have hjs : j < listed.size := by rw [hsz]; exact ((hl j).1 (List.mem_append_left _ hj)).1
        simp [Array.getD, hjs] at this hL
        rw [this] at hL; cases hL
      have hlt2 : ∀ j, j ∈ LA → j < i := by
        intro j hj
        exact (List.pairwise_append.1 hp).2.2 j hj i (List.mem_cons_self ..)
      have hfront := Runs_front (C := C) (nx := nx) hoL hfi LA LB σ τ (fun j hj p g hp2 hg => (pairsOK_get _ h4 j (hlt2 j hj)).resolve_left (hnot j hj) p g hp2 hg) hr
      obtain ⟨o2, f2, σ', k1, k2, hD, hrest⟩ := hfront
      rw [hoL] at k1; obtain rfl := Option.some.inj k1
      rw [hfi] at k2; obtain rfl := Option.some.inj k2
      have hl' : (LA ++ LB).length = fuel := by simp at hlen ⊢; omega
      have hp' : (LA ++ LB).Pairwise (· < ·) := by
        rw [List.pairwise_append] at hp ⊢
        refine ⟨hp.1, (List.pairwise_cons.1 hp.2.1).2, fun x hx y hy => hp.2.2 x hx y (List.mem_cons_of_mem _ hy)⟩
      have hiB : i ∉ LB := by
        intro hb
        have := (List.pairwise_cons.1 (List.pairwise_append.1 hp).2.1).1 i hb
        omega
      have hmem : ∀ j, j ∈ LA ++ LB ↔ j < ops.size ∧ (listed.setIfInBounds i true).getD j true = false := by
        intro j
        by_cases e : j = i
        · subst e
          constructor
          · intro h; rcases List.mem_append.1 h with h | h
            · exact absurd h hLA
            · exact absurd h hiB
          · rintro ⟨_, h⟩; simp [Array.getD, hsz, hlt] at h
        · have : (listed.setIfInBounds i true).getD j true = listed.getD j true := by
            rw [Array.getD_eq_getD_getElem?, Array.getD_eq_getD_getElem?, Array.getElem?_setIfInBounds_ne (Ne.symm e)]
          rw [this, ← hl j]
          simp [e]
      have hdown' : ∀ (k : Nat) (p : Oper), ops[k]? = some p → (listed.setIfInBounds i true).getD k false = true → ∀ e, e ∈ edgesOf p → (listed.setIfInBounds i true).getD e false = true := by
        have keep : ∀ e, listed.getD e false = true → (listed.setIfInBounds i true).getD e false = true := by
          intro e he
          by_cases h : e = i
          · subst h; simp [Array.getD, hsz, hlt]
          · rw [Array.getD_eq_getD_getElem?, Array.getElem?_setIfInBounds_ne (Ne.symm h), ← Array.getD_eq_getD_getElem?]; exact he
        intro k p hk hlk e he
        by_cases h : k = i
        · subst h
          rw [ho] at hk; obtain rfl := Option.some.inj hk
          exact keep e (hpre e he)
        · refine keep e (hdown k p hk ?_ e he)
          rw [Array.getD_eq_getD_getElem?, Array.getElem?_setIfInBounds_ne (Ne.symm h), ← Array.getD_eq_getD_getElem?] at hlk
          exact hlk
      obtain ⟨hd, hD⟩ := hD
      rcases hD with ⟨hg, bs, u, wr, hokk, hbs, _, _, rfl⟩ | ⟨hg, _, rfl⟩
      · refine hokk K A F M ρ a σ.h w hft (fun x _ => opv_rel hs x) hs.gl hs.hr hbs (fun n g1 g2 => hf1 i him n g1 g2) o.guard b ops i _ kk cs ho (wanted_on hs hg) hb ?_
        rintro A' M' ρ' u1 wr1 u' w' g0 g1 g2 g3 ⟨rfl, rfl⟩ g5 g5f g6 g7
        refine ih _ (LA ++ LB) _ _ τ A' M' ρ' _ w' hl' hp' (by simp [hsz]) hmem hdown' (fun x hx => g0 x (hA x hx)) (Imm.le_trans hM g1) (hw.trans g7) g5f (SC.app hs hd g1 g2 g5 g6) hn ?_ ?_ hrest hK
        · intro j hj n m1 m2
          have hji : j ≠ i := by rintro rfl; rcases List.mem_append.1 hj with h | h; exact hLA h; exact hiB h
          rw [g3 n (by omega)]
          refine hf1 j ?_ n m1 m2
          rcases List.mem_append.1 hj with h | h
          · exact List.mem_append_left _ h
          · exact List.mem_append_right _ (List.mem_cons_of_mem _ h)
        · intro n m1
          rw [g3 n (by omega)]; exact hf2 n m1
      · refine K.idle rfl (fun _ => stepG_unwanted ho (wanted_off hs hg)) ?_
        refine ih _ (LA ++ LB) _ _ τ A M ρ _ w hl' hp' (by simp [hsz]) hmem hdown' hA hM hw hft (SC.app hs (wr := []) hd (Imm.le_refl _) (Names.le_refl _) VR.skip hs.hr) hn ?_ hf2 hrest hK
        intro j hj n m1 m2
        refine hf1 j ?_ n m1 m2
        rcases List.mem_append.1 hj with h | h
        · exact List.mem_append_left _ h
        · exact List.mem_append_right _ (List.mem_cons_of_mem _ h)
theorem W_region_draw {C : Ctx} {id : Nat} {ops : Array Oper} {Q : Exit → St → Prop} {σ : St} (hm : C.P.follows .mixedOrders = true)
    (h : wops C ops.toList 0 ops.toList σ (some []) (fun σ' => Q .normal σ')) : W C (.region id ops true) Q σ := by
  intro K A F M pin ρ a w hs b k cs hb hp
  refine K.step A _ w rfl fun w₁ h₁ => ⟨_, _, #[], stepG_region_draw, ⟨⟨rfl, rfl, rfl, Nat.le_refl _⟩, fun _ _ _ => rfl, fun e he => by simp at he⟩, ?_⟩
  have hmore : more A w₁ { w₁ with drawn := w₁.drawn + 1 } = A := more_self A w₁
  rw [hmore]
  obtain ⟨fps, τ, _, h2, h3, h4, h5⟩ := wops_runs (K := fun σ' => Q .normal σ') ops.toList 0 σ [] rfl (fun j => by simp) h
  simp only [Region.schedule, hm, Bool.true_or, if_true]
  have hr := hr_rely hs.sr.hr hs.fit h₁
  have hf := fit_rely hs.fit h₁
  have ed : ext A K.Rd F { w₁ with drawn := w₁.drawn + 1 } = ext A K.Rd F w₁ := rfl
  refine wops_any K (Kf := fun σ' => Q .normal σ') (M0 := M) (F := F) (pin := pin) (A0 := A) (w0 := w) (nx := σ.nx) hb h2 (fun A' M' ρ' σ' a' w' h1 h2 h3 h4 h5 => hp .normal A' M' ρ' σ' a' w' h1 h2 h3 h4 h5) ops.size _ (List.range' 0 ops.toList.length) (Array.replicate ops.size false) σ τ A M ρ a _ (by simp) ?_ (by simp) ?_ ?_ (fun _ h => h) (Imm.le_refl _) (h₁.same.trans ⟨rfl, rfl, rfl, Nat.le_refl _⟩) ⟨hf.fa, hf.rm, hf.lt⟩
    ⟨hs.sr.tm, hs.sr.sz, hs.sr.df, by rw [ed]; exact hr.drawn _, hs.sr.pn, hs.sr.pm, hs.sr.gl⟩ rfl (fun i _ n g1 _ => hs.sr.fr n (by omega)) (fun n g1 => hs.sr.fr n (by omega)) h3 (by rw [← h4]; exact h5)
  · exact List.pairwise_lt_range'
  · intro i
    rw [List.mem_range']
    simp only [Array.length_toList]
    constructor
    · rintro ⟨j, hj, rfl⟩
      simp [Array.getD, hj]
    · rintro ⟨hi, _⟩
      exact ⟨i, hi, by omega⟩
  · intro i o ho hl
    have hi : i < ops.size := (Array.getElem?_eq_some_iff.1 ho).1
    simp [Array.getD, hi] at hl
end Go.Proofs.YtpdojmebloekgaaDoor.Nice.Co
namespace Go.Proofs.YtpdojmebloekgaaDoor.Nice.Co
open Go Go.Conc
set_option linter.unusedVariables false
set_option linter.unusedSimpArgs false
/-- What a callee is handed, in its own names. -/
theorem call_in {M F : Imm} {ρ : Names} {h : Heap} {w : World} {π : List Nat} {hin : List Blk} (hH : HR M F ρ h w) (hπ : π.length = hin.length) (hnd : nodupB π = true) (hbs : ∀ p, p ∈ bsOf π π hin → h p.1 = some p.2) (hu : hUnder hin.length (hin.map some) = true) :
    HR M (frameOf M F ρ h π w) (back π ρ) (hOf (hin.map some)) w := by
  have hlive : ∀ (i : Nat) (b : Blk), hin[i]? = some b → ∃ n, π[i]? = some n ∧ h n = some (renB π b) := by
    intro i b hb
    obtain ⟨n, hn, hm⟩ := bsOf_get (π := π) π hin hπ i b hb
    exact ⟨n, hn, hbs _ hm⟩
  have hsome : ∀ (i n : Nat), π[i]? = some n → ∃ b, hin[i]? = some b ∧ h n = some (renB π b) ∧ ∃ x, ρ n = some x := by
    intro i n hn
    have hi : i < hin.length := by rw [← hπ]; exact (List.getElem?_eq_some_iff.1 hn).1
    obtain ⟨n', hn', hb⟩ := hlive i _ (List.getElem?_eq_getElem hi)
    rw [hn] at hn'; obtain rfl := Option.some.inj hn'
    obtain ⟨x, hx, _⟩ := hH.live n _ hb
    exact ⟨_, List.getElem?_eq_getElem hi, hb, x, hx⟩
  have hundb : ∀ (i : Nat) (b : Blk), hin[i]? = some b → b.under hin.length = true := by
    have : ∀ (l : List Blk) (n : Nat), hUnder n (l.map some) = true → ∀ (i : Nat) (b : Blk), l[i]? = some b → b.under n = true := by
      intro l n
      induction l with
      | nil => intro _ i b hb; simp at hb
      | cons c l ih =>
        intro hl i b hb
        simp [hUnder] at hl
        cases i with
        | zero => simp at hb; subst hb; exact hl.1
        | succ i => exact ih hl.2 i b (by simpa using hb)
    exact this hin _ hu
  have hFc : ∀ b, F b = none → Passed ρ h π b → frameOf M F ρ h π w b = none := by
    intro b hb hex
    unfold frameOf
    rw [if_neg (by simp [hb]), if_neg (fun h => h.2 hex)]
  refine ⟨hH.imm, ?_, ?_, ?_, ?_, ?_⟩
  rotate_right
  · intro i S es hi
    have hi' : hin[i]? = some (.fam S es) := by
      have := hOf_some hi
      simp at this; exact this
    obtain ⟨n, hn, hb⟩ := hlive i _ hi'
    obtain ⟨x, hx, g0, g1, g2, g3, g4⟩ := hH.fam n S _ hb
    refine ⟨x, by simp [back, hn, hx], g0, fun b hbS => ⟨(g1 b hbS).1, hFc b (g1 b hbS).2.1 (.inr ⟨i, n, S, _, hn, hb, hbS⟩), (g1 b hbS).2.2⟩, fun p y hp hy h0y => ?_, fun p S' es' hpi hp => ?_, FR.ren.1 g4⟩
    · obtain ⟨bp, hbp⟩ := Option.ne_none_iff_exists'.1 hp
      obtain ⟨np, hnp, hhp⟩ := hlive p bp (by have := hOf_some hbp; simp at this; exact this)
      simp only [back, hnp, Option.bind_some] at hy
      exact g2 np y (by rw [hhp]; simp) hy h0y
    · obtain ⟨np, hnp, hhp⟩ := hlive p _ (by have := hOf_some hp; simp at this; exact this)
      refine g3 np S' _ (fun e => hpi ?_) hhp
      subst e
      exact nodupB_inj hnd p i np hnp hn
  · intro b o hb
    unfold frameOf at hb
    split at hb
    · exact hH.frm b o hb
    · split at hb
      · exact hb
      · cases hb
  · intro b o hb
    unfold frameOf at hb
    split at hb
    · exact hH.dis b o hb
    · split at hb
      · next h1 => exact h1.1
      · cases hb
  · intro i b hi
    have hi' : hin[i]? = some b := by
      have := hOf_some hi
      simp at this; exact this
    obtain ⟨n, hn, hb⟩ := hlive i b hi'
    obtain ⟨x, hx, hr⟩ := hH.live n _ hb
    refine ⟨x, by simp [back, hn, hx], ?_⟩
    rcases hr with ⟨h0, hg⟩ | ⟨h0, h1, h2, o, h3, h4⟩
    · exact .inl ⟨h0, by rw [ghost_renB] at *; exact hg⟩
    · exact .inr ⟨h0, h1, hFc _ h2 (.inl ⟨i, n, x, hn, hx, h0, rfl⟩), o, h3, h4.back (by rw [hπ]; exact hundb i b hi')⟩
  · intro p q x y hp hq hx hy h0x h0y hb
    obtain ⟨bp, hbp⟩ := Option.ne_none_iff_exists'.1 hp
    obtain ⟨bq, hbq⟩ := Option.ne_none_iff_exists'.1 hq
    obtain ⟨np, hnp, hhp⟩ := hlive p bp (by have := hOf_some hbp; simp at this; exact this)
    obtain ⟨nq, hnq, hhq⟩ := hlive q bq (by have := hOf_some hbq; simp at this; exact this)
    simp only [back, hnp, hnq, Option.bind_some] at hx hy
    have := hH.sep np nq x y (by rw [hhp]; simp) (by rw [hhq]; simp) hx hy h0x h0y hb
    subst this
    exact nodupB_inj hnd p q np hnp hnq
/-- What a callee hands back, in the caller's names. -/
theorem call_out {M M' Fs Fe Fc : Imm} {ρ ρ' : Names} {h : Heap} {w w' : World} {π : List Nat} {nm : Nat} {hin : List Blk} {r : SV} {hout : List (Option Blk)} {u : Value} (hH : HR M Fs ρ h w) (hπ : π.length = hin.length) (hnd : nodupB π = true) (hbs : ∀ p, p ∈ bsOf π π hin → h p.1 = some p.2)
    (hu : hUnder hin.length (hin.map some) = true) (hfr : ∀ n, nm ≤ n → n < nm + 8 → ρ n = none) (hFle : ∀ b o, Fe b = some o → Fc b = some o) (hFn : ∀ b, Fc b = none → Fe b = none) (hFs : ∀ b o, w.heap[b]? = some o → M b = none → Fs b = none → Fe b = none)
    (hFk : ∀ b o, w.heap[b]? = some o → M b = none → Fs b = none → ¬ Passed ρ h π b → Fc b = some o) (hM : M.le M') (hρ : (back π ρ).le ρ') (hv : VR M' ρ' r u) (hH' : HR M' Fc ρ' (hOf hout) w') (hok : okOut hin.length r hout = true) :
    ∃ ρ2 π2, π2 = π ++ newNames nm (hout.length - hin.length) ∧ ρ.le ρ2 ∧ (∀ n, n < nm ∨ nm + 8 ≤ n → ρ2 n = ρ n) ∧ VR M' ρ2 (ren π2 r) u ∧ HR M' Fe ρ2 (wrH h (wrOf π2 π2 hout)) w' := by
  have hlive : ∀ (i : Nat) (b : Blk), hin[i]? = some b → ∃ n, π[i]? = some n ∧ h n = some (renB π b) := by
    intro i b hb
    obtain ⟨n, hn, hm⟩ := bsOf_get (π := π) π hin hπ i b hb
    exact ⟨n, hn, hbs _ hm⟩
  have hsome : ∀ (i n : Nat), π[i]? = some n → ∃ b, hin[i]? = some b ∧ h n = some (renB π b) ∧ ∃ x, ρ n = some x := by
    intro i n hn
    have hi : i < hin.length := by rw [← hπ]; exact (List.getElem?_eq_some_iff.1 hn).1
    obtain ⟨n', hn', hb⟩ := hlive i _ (List.getElem?_eq_getElem hi)
    rw [hn] at hn'; obtain rfl := Option.some.inj hn'
    obtain ⟨x, hx, _⟩ := hH.live n _ hb
    exact ⟨_, List.getElem?_eq_getElem hi, hb, x, hx⟩
  have hundb : ∀ (i : Nat) (b : Blk), hin[i]? = some b → b.under hin.length = true := by
    have : ∀ (l : List Blk) (n : Nat), hUnder n (l.map some) = true → ∀ (i : Nat) (b : Blk), l[i]? = some b → b.under n = true := by
      intro l n
      induction l with
      | nil => intro _ i b hb; simp at hb
      | cons c l ih =>
        intro hl i b hb
        simp [hUnder] at hl
        cases i with
        | zero => simp at hb; subst hb; exact hl.1
        | succ i => exact ih hl.2 i b (by simpa using hb)
    exact this hin _ hu
  simp only [okOut, Bool.and_eq_true] at hok
  obtain ⟨hle, hle8, hur, huo⟩ := hok
  have hle := Nat.le_of_ble_eq_true hle
  have hle8 := Nat.le_of_ble_eq_true hle8
  obtain ⟨k, hk⟩ : ∃ k, hout.length = hin.length + k := ⟨hout.length - hin.length, by omega⟩
  have hk8 : k ≤ 8 := by omega
  have hks : hout.length - hin.length = k := by omega
  generalize hπ2 : π ++ newNames nm (hout.length - hin.length) = π2
  rw [hks] at hπ2
  have hlen2 : π2.length = hout.length := by rw [← hπ2, List.length_append, newNames_length, hπ, hk]
  have get1 : ∀ i, i < hin.length → π2[i]? = π[i]? := fun i hi => by rw [← hπ2, List.getElem?_append_left (by omega)]
  have get2 : ∀ j, j < k → π2[hin.length + j]? = some (nm + j) := fun j hj => by
    rw [← hπ2, List.getElem?_append_right (by omega), show hin.length + j - π.length = j by omega, newNames_get k nm j hj]
  -- the caller's new names
  let ρ2 : Names := fun n => if nm ≤ n ∧ n < nm + k then ρ' (hin.length + (n - nm)) else ρ n
  have hρ2 : ∀ n, ρ2 n = if nm ≤ n ∧ n < nm + k then ρ' (hin.length + (n - nm)) else ρ n := fun n => rfl
  have hle2 : ρ.le ρ2 := by
    intro n x hx
    rw [hρ2, if_neg]
    · exact hx
    · rintro ⟨h1, h2⟩; rw [hfr n h1 (by omega)] at hx; cases hx
  have hsee : ∀ (i n : Nat), π2[i]? = some n → ρ2 n = ρ' i := by
    intro i n hn
    rcases Nat.lt_or_ge i hin.length with hi | hi
    · rw [get1 i hi] at hn
      obtain ⟨b, _, _, x, hx⟩ := hsome i n hn
      rw [hle2 n x hx, hρ i x (by simp [back, hn, hx])]
    · have hi2 : i < hout.length := by rw [← hlen2]; exact (List.getElem?_eq_some_iff.1 hn).1
      obtain ⟨j, rfl⟩ : ∃ j, i = hin.length + j := ⟨i - hin.length, by omega⟩
      rw [get2 j (by omega)] at hn
      obtain rfl := Option.some.inj hn
      rw [hρ2, if_pos ⟨by omega, by omega⟩]
      congr 1; omega
  have hsee' : ∀ i, i < hout.length → ρ2 (π2.getD i 0) = ρ' i := by
    intro i hi
    refine hsee i _ ?_
    rw [List.getD_eq_getElem?_getD, List.getElem?_eq_getElem (by omega)]; rfl
  have hnd2 : ∀ i j n : Nat, π2[i]? = some n → π2[j]? = some n → i = j := by
    have old : ∀ (i n : Nat), i < hin.length → π2[i]? = some n → ¬ (nm ≤ n ∧ n < nm + k) := by
      intro i n hi hn ⟨h1, h2⟩
      rw [get1 i hi] at hn
      obtain ⟨_, _, _, x, hx⟩ := hsome i n hn
      rw [hfr n h1 (by omega)] at hx; cases hx
    have new : ∀ (i n : Nat), hin.length ≤ i → π2[i]? = some n → n = nm + (i - hin.length) ∧ i - hin.length < k := by
      intro i n hi hn
      have hi2 : i < hout.length := by rw [← hlen2]; exact (List.getElem?_eq_some_iff.1 hn).1
      obtain ⟨j, rfl⟩ : ∃ j, i = hin.length + j := ⟨i - hin.length, by omega⟩
      rw [get2 j (by omega)] at hn
      obtain rfl := Option.some.inj hn
      exact ⟨by omega, by omega⟩
    intro i j n hi hj
    rcases Nat.lt_or_ge i hin.length with h1 | h1 <;> rcases Nat.lt_or_ge j hin.length with h2 | h2
    · rw [get1 i h1] at hi; rw [get1 j h2] at hj; exact nodupB_inj hnd i j n hi hj
    · have := new j n h2 hj; exact absurd ⟨by omega, by omega⟩ (old i n h1 hi)
    · have := new i n h1 hi; exact absurd ⟨by omega, by omega⟩ (old j n h2 hj)
    · have a := new i n h1 hi; have b := new j n h2 hj; omega
  obtain ⟨hwr1, hwr2⟩ := wrH_wrOf (π := π2) π2 hout h hlen2 hnd2
  have hundo : ∀ (i : Nat) (b : Blk), hout[i]? = some (some b) → b.under hout.length = true := by
    have : ∀ (l : List (Option Blk)) (n : Nat), hUnder n l = true → ∀ (i : Nat) (b : Blk), l[i]? = some (some b) → b.under n = true := by
      intro l n
      induction l with
      | nil => intro _ i b hb; simp at hb
      | cons c l ih =>
        intro hl i b hb
        cases c with
        | none => cases i with
          | zero => simp at hb
          | succ i => exact ih (by simpa [hUnder] using hl) i b (by simpa using hb)
        | some c =>
          simp [hUnder] at hl
          cases i with
          | zero => simp at hb; subst hb; exact hl.1
          | succ i => exact ih hl.2 i b (by simpa using hb)
    exact this hout _ huo
  -- a block of the caller's that was not passed lies still
  have hstay : ∀ n blk x, n ∉ π2 → h n = some blk → ρ n = some x → 0 < x.R → ∃ obj, w.heap[x.b]? = some obj ∧ Fc x.b = some obj ∧ BR M ρ x blk obj := by
    intro n blk x hn hb hx h0
    obtain ⟨x', hx', hr⟩ := hH.live n blk hb
    rw [hx] at hx'; obtain rfl := Option.some.inj hx'
    rcases hr with ⟨h00, _⟩ | ⟨_, h1, h2, o, h3, h4⟩
    · omega
    · refine ⟨o, h3, ?_, h4⟩
      refine hFk _ _ h3 h1 h2 ?_
      · rintro (⟨i, m, y, hm, hy, hy0, hyb⟩ | ⟨i, m, S, es, hm, hmf, hbS⟩)
        · obtain ⟨b, _, hb2, _⟩ := hsome i m hm
          have := hH.sep n m x y (by rw [hb]; simp) (by rw [hb2]; simp) hx hy h0 hy0 hyb.symm
          subst this
          have hi : i < hin.length := by rw [← hπ]; exact (List.getElem?_eq_some_iff.1 hm).1
          exact hn (List.mem_iff_getElem?.2 ⟨i, by rw [get1 i hi]; exact hm⟩)
        · obtain ⟨_, _, _, _, g2, _⟩ := hH.fam m S es hmf
          exact g2 n x (by rw [hb]; simp) hx h0 hbS
  -- a family of the caller's that was not passed lies still
  have hstayF : ∀ n S es, n ∉ π2 → h n = some (.fam S es) → ∀ b, b ∈ S → ∃ obj, w.heap[b]? = some obj ∧ Fc b = some obj := by
    intro n S es hn hb b hbS
    obtain ⟨x, hx, g0, g1, g2, g3, _⟩ := hH.fam n S es hb
    obtain ⟨k1, k2, k3⟩ := g1 b hbS
    refine ⟨_, Array.getElem?_eq_getElem k3, ?_⟩
    refine hFk _ _ (Array.getElem?_eq_getElem k3) k1 k2 ?_
    · rintro (⟨i, m, y, hm, hy, hy0, hyb⟩ | ⟨i, m, S', es', hm, hmf, hbS'⟩)
      · obtain ⟨b', _, hb2, _⟩ := hsome i m hm
        refine g2 m y (by rw [hb2]; simp) hy hy0 ?_
        rw [hyb]; exact hbS
      · by_cases e : m = n
        · subst e
          have hi : i < hin.length := by rw [← hπ]; exact (List.getElem?_eq_some_iff.1 hm).1
          exact hn (List.mem_iff_getElem?.2 ⟨i, by rw [get1 i hi]; exact hm⟩)
        · exact g3 m S' es' e hmf b hbS hbS'
  refine ⟨ρ2, π2, rfl, hle2, ?_, hv.fwd hsee' hur, ⟨hH'.imm, fun b o hb => hH'.frm b o (hFle b o hb), fun b o hb => hH'.dis b o (hFle b o hb), ?_, ?_, ?_⟩⟩
  · intro n hn
    rw [hρ2, if_neg (by omega)]
  rotate_right
  · -- families
    have inside : ∀ (n i : Nat), π2[i]? = some n → ∀ blk, wrH h (wrOf π2 π2 hout) n = some blk → ∃ b, hOf hout i = some b ∧ blk = renB π2 b := by
      intro n i hi blk hn
      have hi2 : i < hout.length := by rw [← hlen2]; exact (List.getElem?_eq_some_iff.1 hi).1
      have hb := hwr1 i n _ hi (List.getElem?_eq_getElem hi2)
      rw [hn] at hb
      cases e : hout[i] with
      | none => rw [e] at hb; cases hb
      | some b =>
        rw [e] at hb
        refine ⟨b, ?_, by simpa using hb⟩
        unfold hOf; rw [List.getD_eq_getElem?_getD, List.getElem?_eq_getElem hi2, e]; rfl
    have fIn : ∀ (n i : Nat) S es, π2[i]? = some n → wrH h (wrOf π2 π2 hout) n = some (.fam S es) → ∃ es', hOf hout i = some (.fam S es') ∧ es = ⟨es'.es, renO π2 es'.op, es'.ly⟩ := by
      intro n i S es hi hn
      obtain ⟨b, hb, e⟩ := inside n i hi _ hn
      obtain ⟨es', rfl, he⟩ := renB_fam e.symm
      exact ⟨es', hb, he⟩
    -- the blocks of a family that was passed are not in the callee's frame; those of one that was not are
    have inS : ∀ (i : Nat) S es b, hOf hout i = some (.fam S es) → b ∈ S → Fc b = none := by
      intro i S es b hi hb
      obtain ⟨_, _, _, g1, _⟩ := hH'.fam i S es hi
      exact (g1 b hb).2.1
    intro n S es hn
    by_cases hmem : n ∈ π2
    · obtain ⟨i, hi⟩ := List.mem_iff_getElem?.1 hmem
      obtain ⟨es', hlv, rfl⟩ := fIn n i S es hi hn
      obtain ⟨x, hx, g0, g1, g2, g3, g4⟩ := hH'.fam i S es' hlv
      refine ⟨x, by rw [hsee i n hi]; exact hx, g0, fun b hb => ⟨(g1 b hb).1, hFn _ (g1 b hb).2.1, (g1 b hb).2.2⟩, fun m y hm hy h0y => ?_, fun m S2 es2 hmn hm b hb => ?_, FR.ren.2 g4⟩
      · by_cases hm2 : m ∈ π2
        · obtain ⟨j, hj⟩ := List.mem_iff_getElem?.1 hm2
          obtain ⟨blk, hblk⟩ := Option.ne_none_iff_exists'.1 hm
          obtain ⟨b, hb, _⟩ := inside m j hj _ hblk
          exact g2 j y (by rw [hb]; simp) (by rw [← hsee j m hj]; exact hy) h0y
        · rw [hwr2 m hm2] at hm
          obtain ⟨blk, hblk⟩ := Option.ne_none_iff_exists'.1 hm
          obtain ⟨y', hy', _⟩ := hH.live m blk hblk
          have := hle2 m y' hy'
          rw [hy] at this; obtain rfl := Option.some.inj this
          obtain ⟨obj, _, k2, _⟩ := hstay m blk y hm2 hblk hy' h0y
          intro hb
          rw [(g1 _ hb).2.1] at k2; cases k2
      · by_cases hm2 : m ∈ π2
        · obtain ⟨j, hj⟩ := List.mem_iff_getElem?.1 hm2
          obtain ⟨es3, hlv3, _⟩ := fIn m j S2 es2 hj hm
          exact g3 j S2 es3 (fun e => hmn (by subst e; rw [hi] at hj; exact (Option.some.inj hj).symm)) hlv3 b hb
        · rw [hwr2 m hm2] at hm
          intro hb2
          obtain ⟨obj, _, k2⟩ := hstayF m S2 es2 hm2 hm b hb2
          rw [(g1 _ hb).2.1] at k2; cases k2
    · rw [hwr2 n hmem] at hn
      obtain ⟨x, hx, g0, g1, g2, g3, g4⟩ := hH.fam n S es hn
      obtain ⟨xo, _, hxF, _⟩ := hstay n _ x hmem hn hx g0
      refine ⟨x, hle2 n x hx, g0, fun b hb => ?_, fun m y hm hy h0y => ?_, fun m S2 es2 hmn hm b hb => ?_, g4.last hM (fun c hc => ?_)⟩
      · obtain ⟨obj, k1, k2⟩ := hstayF n S es hmem hn b hb
        exact ⟨hH'.dis _ _ k2, hFs _ _ k1 (g1 b hb).1 (g1 b hb).2.1, (Array.getElem?_eq_some_iff.1 (hH'.frm _ _ k2)).1⟩
      · by_cases hm2 : m ∈ π2
        · obtain ⟨j, hj⟩ := List.mem_iff_getElem?.1 hm2
          obtain ⟨blk, hblk⟩ := Option.ne_none_iff_exists'.1 hm
          obtain ⟨b, hb, _⟩ := inside m j hj _ hblk
          obtain ⟨y', hy', hr⟩ := hH'.live j b hb
          have := hsee j m hj
          rw [hy, hy'] at this; obtain rfl := Option.some.inj this
          intro hbS
          obtain ⟨obj, _, k2⟩ := hstayF n S es hmem hn _ hbS
          rcases hr with ⟨h00, _⟩ | ⟨_, _, k3, _⟩
          · omega
          · rw [k3] at k2; cases k2
        · rw [hwr2 m hm2] at hm
          obtain ⟨blk, hblk⟩ := Option.ne_none_iff_exists'.1 hm
          obtain ⟨y', hy', _⟩ := hH.live m blk hblk
          have := hle2 m y' hy'
          rw [hy] at this; obtain rfl := Option.some.inj this
          exact g2 m y hm hy' h0y
      · by_cases hm2 : m ∈ π2
        · obtain ⟨j, hj⟩ := List.mem_iff_getElem?.1 hm2
          obtain ⟨es3, hlv3, _⟩ := fIn m j S2 es2 hj hm
          intro hb2
          obtain ⟨obj, _, k2⟩ := hstayF n S es hmem hn b hb
          rw [inS j S2 es3 b hlv3 hb2] at k2; cases k2
        · rw [hwr2 m hm2] at hm
          exact g3 m S2 es2 hmn hm b hb
      · rcases hc with rfl | hc
        · rw [hH'.frm _ _ hxF]
          obtain ⟨obj, k1, k2, _⟩ := hstay n _ x hmem hn hx g0
          rw [hxF] at k2; obtain rfl := Option.some.inj k2
          exact k1.symm
        · obtain ⟨obj, k1, k2⟩ := hstayF n S es hmem hn c hc
          rw [hH'.frm _ _ k2, k1]
  · intro n blk hn
    by_cases hmem : n ∈ π2
    · obtain ⟨i, hi⟩ := List.mem_iff_getElem?.1 hmem
      have hi2 : i < hout.length := by rw [← hlen2]; exact (List.getElem?_eq_some_iff.1 hi).1
      have hb := hwr1 i n _ hi (List.getElem?_eq_getElem hi2)
      rw [hn] at hb
      cases e : hout[i] with
      | none => rw [e] at hb; cases hb
      | some b =>
        rw [e] at hb
        obtain rfl : blk = renB π2 b := by simpa using hb
        have hob : hout[i]? = some (some b) := by rw [List.getElem?_eq_getElem hi2, e]
        have hlv : hOf hout i = some b := by unfold hOf; rw [List.getD_eq_getElem?_getD, hob]; rfl
        obtain ⟨x, hx, hr⟩ := hH'.live i b hlv
        refine ⟨x, by rw [hsee i n hi]; exact hx, ?_⟩
        rcases hr with ⟨h0, hg⟩ | ⟨h0, h1, h2, o, h3, h4⟩
        · exact .inl ⟨h0, by rw [ghost_renB] at *; exact hg⟩
        · exact .inr ⟨h0, h1, hFn _ h2, o, h3, h4.fwd hsee' (hundo i b hob)⟩
    · rw [hwr2 n hmem] at hn
      obtain ⟨x, hx, hr⟩ := hH.live n blk hn
      refine ⟨x, hle2 n x hx, ?_⟩
      rcases hr with hr | ⟨h0, h1, h2, _, _, _⟩
      · exact .inl hr
      · obtain ⟨obj, g1, g2, g3⟩ := hstay n blk x hmem hn hx h0
        exact .inr ⟨h0, hH'.dis _ _ g2, hFs _ _ g1 h1 h2, obj, hH'.frm _ _ g2, g3.mono hM hle2⟩
  · intro p q x y hp hq hx hy h0x h0y hb
    have inside : ∀ (n i : Nat) (z : Own), π2[i]? = some n → wrH h (wrOf π2 π2 hout) n ≠ none → ρ2 n = some z → 0 < z.R → hOf hout i ≠ none ∧ ρ' i = some z ∧ Fc z.b = none := by
      intro n i z hi hne hz h0
      have hi2 : i < hout.length := by rw [← hlen2]; exact (List.getElem?_eq_some_iff.1 hi).1
      have hb := hwr1 i n _ hi (List.getElem?_eq_getElem hi2)
      have hz' : ρ' i = some z := by rw [← hsee i n hi]; exact hz
      cases e : hout[i] with
      | none => rw [e] at hb; exact absurd hb hne
      | some b =>
        have hlv : hOf hout i = some b := by unfold hOf; rw [List.getD_eq_getElem?_getD, List.getElem?_eq_getElem hi2, e]; rfl
        obtain ⟨x, hx, hr⟩ := hH'.live i b hlv
        rw [hz'] at hx; obtain rfl := Option.some.inj hx
        rcases hr with ⟨h00, _⟩ | ⟨_, _, h2, _⟩
        · omega
        · exact ⟨by rw [hlv]; simp, hz', h2⟩
    have outside : ∀ (n : Nat) (z : Own), n ∉ π2 → wrH h (wrOf π2 π2 hout) n ≠ none → ρ2 n = some z → 0 < z.R → h n ≠ none ∧ ρ n = some z ∧ Fc z.b ≠ none := by
      intro n z hn hne hz h0
      rw [hwr2 n hn] at hne
      obtain ⟨blk, hblk⟩ := Option.ne_none_iff_exists'.1 hne
      obtain ⟨x, hx, _⟩ := hH.live n blk hblk
      have := hle2 n x hx
      rw [hz] at this; obtain rfl := Option.some.inj this
      obtain ⟨obj, _, g2, _⟩ := hstay n blk _ hn hblk hx h0
      exact ⟨hne, hx, by rw [g2]; simp⟩
    by_cases hpm : p ∈ π2 <;> by_cases hqm : q ∈ π2
    · obtain ⟨i, hi⟩ := List.mem_iff_getElem?.1 hpm
      obtain ⟨j, hj⟩ := List.mem_iff_getElem?.1 hqm
      obtain ⟨a1, a2, a3⟩ := inside p i x hi hp hx h0x
      obtain ⟨b1, b2, b3⟩ := inside q j y hj hq hy h0y
      have := hH'.sep i j x y a1 b1 a2 b2 h0x h0y hb
      subst this
      rw [hi] at hj; exact Option.some.inj hj
    · obtain ⟨i, hi⟩ := List.mem_iff_getElem?.1 hpm
      obtain ⟨a1, a2, a3⟩ := inside p i x hi hp hx h0x
      obtain ⟨b1, b2, b3⟩ := outside q y hqm hq hy h0y
      rw [← hb] at b3; exact absurd a3 b3
    · obtain ⟨j, hj⟩ := List.mem_iff_getElem?.1 hqm
      obtain ⟨a1, a2, a3⟩ := inside q j y hj hq hy h0y
      obtain ⟨b1, b2, b3⟩ := outside p x hpm hp hx h0x
      rw [hb] at b3; exact absurd a3 b3
    · obtain ⟨a1, a2, a3⟩ := outside p x hpm hp hx h0x
      obtain ⟨b1, b2, b3⟩ := outside q y hqm hq hy h0y
      exact hH.sep p q x y a1 b1 a2 b2 h0x h0y hb
/-- What a step lists, told by what the state knows. -/
def OwnB (ρ : Names) (h : Heap) (b : Nat) : Prop := ∃ n blk x, h n = some blk ∧ ρ n = some x ∧ 0 < x.R ∧ x.b = b
def EvB (M : Imm) (ρ : Names) (h : Heap) (e : Event) : Prop :=
  (∃ ad s, e = ⟨.cell ad, false, s⟩ ∧ (M ad.block ≠ none ∨ OwnB ρ h ad.block)) ∨ (∃ ad s, e = ⟨.cell ad, true, s⟩ ∧ OwnB ρ h ad.block) ∨ e = noRoomEvent
theorem EvB.ok {A Rd : Blks} {M F : Imm} {ρ : Names} {h : Heap} {w : World} {e : Event} (H : HR M (ext A Rd F w) ρ h w) (f : Fit A Rd F M w) (he : EvB M ρ h e) : EvOk A Rd e := by
  have own : ∀ b, OwnB ρ h b → A b := fun b ⟨n, blk, x, h1, h2, h3, h4⟩ => h4 ▸ own_live H f h1 h2 h3
  rcases he with ⟨ad, s, rfl, h1 | h1⟩ | ⟨ad, s, rfl, h1⟩ | rfl
  · exact .inl ⟨ad, s, rfl, acc_M H h1⟩
  · exact .inl ⟨ad, s, rfl, .inl (own _ h1)⟩
  · exact .inr (.inl ⟨ad, s, rfl, own _ h1⟩)
  · exact .inr (.inr rfl)
def OpEv (C : Ctx) (o : Oper) (v : Operand → SV) (bs : List (Nat × Blk)) : Prop :=
  ∀ (M F : Imm) (ρ : Names) (a : Act) (h : Heap) (w : World), (∀ x, x ∈ o.op.operands → VR M ρ (v x) (a.eval x)) → HR M F ρ h w → (∀ p, p ∈ bs → h p.1 = some p.2) → ∀ e, e ∈ (execOp a.eval o).events C.P w #[] → EvB M ρ h e
/-- An operation that yields a value or nothing, whatever it is. -/
def plainOp : Op → Bool
  | .call ⟨.builtin .len, _, _⟩ | .call ⟨.builtin .append, _, _⟩ | .call ⟨.builtin .min, _, _⟩ | .call ⟨.builtin .max, _, _⟩ => true
  | .call _ | .go _ | .defer _ | .send .. | .recv .. | .select .. => false
  | _ => true
def IsVal : Next → Prop
  | .value _ | .skip => True
  | _ => False
theorem run_isval {P : Program} {s : Sem Value} {w w' : World} {r : Next} (h : (do pure (Next.value (← s)) : Sem Next).run P w = .ok r w') : IsVal r := by
  rw [Sem.run_bind] at h
  cases e : s.run P w with
  | ok x w1 => rw [e] at h; cases h; trivial
  | halt x w1 => rw [e] at h; cases h
theorem run_isskip {P : Program} {s : Sem Unit} {w w' : World} {r : Next} (h : (do s; pure Next.skip : Sem Next).run P w = .ok r w') : IsVal r := by
  rw [Sem.run_bind] at h
  cases e : s.run P w with
  | ok x w1 => rw [e] at h; cases h; trivial
  | halt x w1 => rw [e] at h; cases h
theorem plain_run {P : Program} {o : Oper} (hp : plainOp o.op = true) {ρ : Operand → Value} {w w' : World} {r : Next} (h : (execOp ρ o).run P w = .ok r w') : IsVal r := by
  unfold execOp at h
  revert hp h
  cases o.op <;> intro hp h <;> first
    | (exact run_isval h)
    | (exact run_isskip h)
    | (cases h; trivial)
    | (cases hp)
    | skip
  case pick =>
    rw [Sem.run_bind] at h
    revert h
    cases (asBool _).run P w with
    | ok x w1 => intro h; cases h; trivial
    | halt x w1 => intro h; cases h
  case nilCheck x =>
    simp only at h
    have np : ∀ {e : RuntimeError}, (runtimePanic e : Sem Next).run P w = .ok r w' → IsVal r := by
      intro e h
      unfold runtimePanic at h
      simp only [Sem.run_bind, run_program, Result.andThen_ok] at h
      cases e <;> simp only [goPanic, Sem.run, Sem.run_bind] at h <;> first | (cases h; done) | skip
      all_goals
        revert h
        generalize (elemOf _).run P w = q
        cases q with
        | halt _ _ => intro h; cases h
        | ok t w1 =>
          intro h
          simp only [Result.andThen_ok, newVar, newRow, Sem.run_bind, newObj, Sem.run, Sem.run_pure] at h
          cases h
    split at h
    · exact np h
    · exact np h
    · exact np h
    · split at h
      · exact np h
      · rw [Sem.run_bind, run_program, Result.andThen_ok, Sem.run_bind] at h
        revert h
        generalize (nilAhead _ _ _ _).run P w = q
        cases q with
        | halt _ _ => intro h; cases h
        | ok t w1 =>
          intro h
          simp only [Result.andThen_ok] at h
          split at h
          · simp only [Sem.run_bind, unsupported, Sem.run, Result.andThen] at h; cases h
          · simp only [Sem.run_bind, Sem.run_pure, Result.andThen_ok] at h; cases h; trivial
      · cases h; trivial
    · cases h; trivial
  case call c =>
    obtain ⟨cl, xs, ts⟩ := c
    cases cl with
    | builtin bi =>
      cases bi <;> first
        | (cases hp; done)
        | (simp only [resolve, invoke, builtin, Sem.run_bind, Sem.run_pure, Result.andThen_ok] at h
           exact run_isval (by rw [Sem.run_bind]; exact h))
    | value f => cases hp
    | invoke f n => cases hp
/-- It yields a value or nothing. -/
def OpVal (C : Ctx) (o : Oper) (v : Operand → SV) (bs : List (Nat × Blk)) : Prop :=
  ∀ (M F : Imm) (ρ : Names) (a : Act) (h : Heap) (w : World), (∀ x, x ∈ o.op.operands → VR M ρ (v x) (a.eval x)) → HR M F ρ h w → (∀ p, p ∈ bs → h p.1 = some p.2) → ∀ r w', (execOp a.eval o).run C.P w = .ok r w' → IsVal r
theorem OpVal.plain {C : Ctx} {o : Oper} {v : Operand → SV} {bs : List (Nat × Blk)} (hp : plainOp o.op = true) : OpVal C o v bs := fun M F ρ a h w _ _ _ r w' hr => plain_run hp hr
/-- An operation of the lone calculus whose accesses are told. -/
theorem OpOK.of {C : Ctx} {o : Oper} {nm : Nat} {v : Operand → SV} {bs : List (Nat × Blk)} {RS : SV → List (Nat × Option Blk) → Prop} (hL : Nice.OpOK C o nm v bs RS) (hp : OpVal C o v bs) (hE : OpEv C o v bs) : OpOK C o nm v bs RS := by
  intro K A F M ρ a h w hf hv hG hH hbs hfr gd b ops i rest k cs ho hw hb hk
  refine K.step A _ w rfl fun w₁ h₁ => ?_
  have H1 := hr_rely hH hf h₁
  have f1 := fit_rely hf h₁
  have ev : ∀ e, e ∈ listed C.P b.fn a o w₁ → EvOk A K.Rd e := fun e he => (hE M _ ρ a h w₁ hv H1 hbs e (mem_listed he)).ok H1 f1
  have key := hL M _ ρ a h w₁ hv hG H1 hbs hfr
    (fun a' w' => ∃ M' ρ' u wr u', M.le M' ∧ ρ.le ρ' ∧ (∀ n, n < nm ∨ nm + 8 ≤ n → ρ' n = ρ n) ∧ RS u wr ∧ VR M' ρ' u u' ∧ HR M' (ext A K.Rd F w₁) ρ' (wrH h wr) w' ∧ Same w₁ w' ∧ a' = a.put o.dst u') (fun _ _ _ => False)
    (fun M' ρ' u wr u' w' g1 g2 g3 g4 g5 g6 g7 => ⟨M', ρ', u, wr, u', g1, g2, g3, g4, g5, g6, g7, rfl⟩)
  unfold Oper.wp at key
  have go : ∀ a' w', (∃ M' ρ' u wr u', M.le M' ∧ ρ.le ρ' ∧ (∀ n, n < nm ∨ nm + 8 ≤ n → ρ' n = ρ n) ∧ RS u wr ∧ VR M' ρ' u u' ∧ HR M' (ext A K.Rd F w₁) ρ' (wrH h wr) w' ∧ Same w₁ w' ∧ a' = a.put o.dst u') →
      Guar A K.Rd w₁ w' (listed C.P b.fn a o w₁) ∧ K.T (more A w₁ w') (G (b.at a' (.inRegion ops rest :: k)) cs) w' := by
    rintro a' w' ⟨M', ρ', u, wr, u', g1, g2, g3, g4, g5, g6, g7, rfl⟩
    obtain ⟨e1, e2, e3⟩ := hr_more H1 f1 g1 g6 g7
    exact ⟨⟨g7, e3, ev⟩, hk (more A w₁ w') M' ρ' u wr u' w' (fun x hx => .inl hx) g1 g2 g3 g4 g5 e2 e1 (h₁.same.trans g7)⟩
  cases hr : (execOp a.eval o).run C.P w₁ with
  | ok r w' =>
    have hiv := hp M _ ρ a h w₁ hv H1 hbs r w' hr
    rw [hr] at key
    cases r with
    | value x =>
      rw [Oper.upon_value] at key
      obtain ⟨q1, q2⟩ := go _ _ key
      exact ⟨_, w', _, stepG_value (o := { o with guard := gd }) ho hw hb hr, q1, q2⟩
    | skip =>
      rw [Oper.upon_skip] at key
      obtain ⟨q1, q2⟩ := go _ _ key
      exact ⟨_, w', _, stepG_none (o := { o with guard := gd }) ho hw hb hr, q1, q2⟩
    | _ => exact hiv.elim
  | halt x w' =>
    rw [hr] at key
    cases x <;> exact key.elim
/-- The function, called with such arguments beside others, returns, with an answer and blocks as 'post' says. -/
def Spec (P : Program) (Gv : Nat → SV) (f : FuncId) (args : List SV) (hin : List Blk) (post : SV → List (Option Blk) → Prop) : Prop :=
  ∀ (K : Tr P) A F M ρ (vs : Array Value) w, Fit A K.Rd F M w → (∀ g ρ, VR M ρ (Gv g) (.pointer (some ⟨g, 0, none⟩))) → HR M (ext A K.Rd F w) ρ (hOf (hin.map some)) w → vs.size = args.length →
    (∀ (i : Nat) (x : SV), args[i]? = some x → ∃ u, vs[i]? = some u ∧ VR M ρ x u) → (∀ n, hin.length ≤ n → ρ n = none) →
    ∀ c cs, (∀ A' M' ρ' r hout u w', (∀ x, A x → A' x) → M.le M' → ρ.le ρ' → VR M' ρ' r u → Fit A' K.Rd F M' w' → HR M' (ext A' K.Rd F w') ρ' (hOf hout) w' → okOut hin.length r hout = true → Same w w' → post r hout → K.T A' (G (Frame.finish c u) cs) w') →
      K.T A (G (Frame.enter P f vs .normal) (c :: cs)) w
theorem Spec.mono {P : Program} {Gv : Nat → SV} {f : FuncId} {args : List SV} {hin : List Blk} {post post' : SV → List (Option Blk) → Prop} (h : Spec P Gv f args hin post) (hp : ∀ r ho, post r ho → post' r ho) : Spec P Gv f args hin post' :=
  fun K A F M ρ vs w h0 h1 h2 h3 h4 h5 c cs hk => h K A F M ρ vs w h0 h1 h2 h3 h4 h5 c cs fun A' M' ρ' r hout u w' k1 k2 k3 k4 k5 k6 k7 k8 k9 => hk A' M' ρ' r hout u w' k1 k2 k3 k4 k5 k6 k7 k8 (hp _ _ k9)
/-- What a function gives back: the slots of its results; what it reads for that. -/
def RetIs (C : Ctx) (fn : Func) (σ : St) (r : SV) : Prop :=
  ∀ M F pin ρ a w, SR C M F pin ρ σ a w → (∃ u, (results fn a.tmps).run C.P w = .ok u w ∧ VR M ρ r u) ∧ ∀ e, e ∈ (results fn a.tmps).events C.P w #[] → EvB M ρ σ.h e
theorem RetIs.of {C : Ctx} {fn : Func} {σ : St} {r : SV} (h : Nice.RetIs C fn σ r) (he : ∀ tmps w, (results fn tmps).events C.P w #[] = #[]) : RetIs C fn σ r :=
  fun M F pin ρ a w hs => ⟨h M F pin ρ a w hs, fun e hm => by rw [he] at hm; simp at hm⟩
/-- The exits of a body. -/
def outQ (C : Ctx) (fn : Func) (post : SV → List (Option Blk) → Prop) : Exit → St → Prop
  | .ret, σ | .normal, σ => ∃ π r' r hout, RetIs C fn σ r' ∧ r' = ren π r ∧ okOut C.m r hout = true ∧ Sub C π σ [] hout ∧ post r hout
  | _, _ => False
theorem stepG_leaveE {P : Program} {main : Bool} {b : Frame} {a : Act} {cs : List Frame} {w : World} {fn : Func} {todo : List Item} {c : Frame} {v : Value} (hn : b.kind = .normal) (hd : a.defers = []) (hf : P.funcs[b.fn]? = some fn)
    (hr : (results fn a.tmps).run P w = .ok v w) : ∃ es, stepG P main (G { b.at a todo with mode := .returning } (c :: cs)) w = .go (G (c.finish v) cs) w es ∧ ∀ e, e ∈ es → e ∈ (results fn a.tmps).events P w #[] := by
  simp [G, stepG, unwind, doReturn, Frame.at, hn, hd, hf, hr, GStep.after]
  first
    | exact fun e he => mem_seen he
    | exact ⟨_, rfl, fun e he => mem_seen he⟩
theorem fn_intro {P : Program} {Gv : Nat → SV} {f : FuncId} {fn : Func} {c : Code} {args : List SV} {hin : List Blk} {post : SV → List (Option Blk) → Prop} (hf : P.funcs[f]? = some fn) (hb : fn.body = some c)
    (hn : Nat.ble args.length fn.ntmps = true)
    (h : W ⟨P, fn.ntmps, hin.length, Gv⟩ c (outQ ⟨P, fn.ntmps, hin.length, Gv⟩ fn post) (stOf (argT 0 args) (hin.map some))) : Spec P Gv f args hin post := by
  intro K A F M ρ vs w hfit hG hH hsz hargs hfr fc cs hk
  have hn' := Nat.le_of_ble_eq_true hn
  rw [enter_at vs hf hb]
  have fin : ∀ σ' A' M' ρ' a' w', (∀ x, A x → A' x) → M.le M' → SC ⟨P, fn.ntmps, hin.length, Gv⟩ A' K.Rd F M' ρ ρ' σ' a' w' → Same w w' →
      (∃ π r' r hout, RetIs ⟨P, fn.ntmps, hin.length, Gv⟩ fn σ' r' ∧ r' = ren π r ∧ okOut hin.length r hout = true ∧ Sub ⟨P, fn.ntmps, hin.length, Gv⟩ π σ' [] hout ∧ post r hout) →
      ∀ todo, K.T A' (G { (base f).at a' todo with mode := .returning } (fc :: cs)) w' := by
    rintro σ' A' M' ρ' a' w' h1 h2 h3 h4 ⟨π, r', r, hout, hr, rfl, hu, hsub, hp⟩ todo
    refine K.step A' _ w' rfl fun w₁ h₁ => ?_
    have H1 := hr_rely h3.sr.hr h3.fit h₁
    have f1 := fit_rely h3.fit h₁
    have hs1 : SR ⟨P, fn.ntmps, hin.length, Gv⟩ M' (ext A' K.Rd F w₁) ρ ρ' σ' a' w₁ := ⟨⟨h3.sr.tm, h3.sr.sz, h3.sr.df, H1, h3.sr.pn, h3.sr.pm, h3.sr.gl⟩, h3.sr.fr⟩
    obtain ⟨⟨u, hru, hv⟩, hev⟩ := hr M' _ ρ ρ' a' w₁ hs1
    have hrel := hsub.rel hs1.toSR0
    have hlen : π.length = hout.length := by
      have := hsub.ok
      simp only [Bool.and_eq_true] at this
      exact Nat.eq_of_beq_eq_true this.1
    have hu' : r.under hout.length = true := by
      simp only [okOut, Bool.and_eq_true] at hu
      exact hu.2.2.1
    obtain ⟨es, e1, e2⟩ := stepG_leaveE (main := K.main) (b := base f) (todo := todo) (c := fc) (cs := cs) rfl hs1.df hf hru
    refine ⟨_, w₁, es, e1, ⟨.refl _, fun _ _ _ => rfl, fun e he => (hev e (e2 e he)).ok H1 f1⟩, ?_⟩
    rw [more_self]
    exact hk A' M' (back π ρ') r hout u w₁ h1 h2 hrel.pn (hv.back r rfl (by rw [hlen]; exact hu')) f1 hrel.hr hu (h4.trans h₁.same) hp
  refine h K A F M ρ ρ { tmps := vs ++ Array.replicate (fn.ntmps - vs.size) undef, defers := [] } w ⟨hfit, ⟨⟨?_, ?_, rfl, hH, Names.le_refl _, ?_, hG⟩, ?_⟩⟩ (base f) [] (fc :: cs) (by intro h; cases h) ?_
  · intro k
    show VR M ρ (tOf (argT 0 args) k) _
    rw [tOf_argT]
    simp only [Nat.zero_le, if_true, Nat.sub_zero]
    rw [List.getD_eq_getElem?_getD]
    cases e : args[k]? with
    | none => exact .any _
    | some x =>
      obtain ⟨u, hu, hr⟩ := hargs k x e
      have hk := (Array.getElem?_eq_some_iff.1 hu).1
      have : (vs ++ Array.replicate (fn.ntmps - vs.size) undef).getD k undef = u := by
        rw [Array.getD_eq_getD_getElem?, Array.getElem?_append_left hk, hu]; rfl
      rw [this]; exact hr
  · simp; omega
  · intro n x hx
    rcases Nat.lt_or_ge n hin.length with h | h
    · exact h
    · rw [hfr n h] at hx; cases hx
  · intro n hn
    exact hfr n (by simpa [stOf] using hn)
  · intro e A' M' ρ' σ' a' w' h1 h2 h3 h4 h5
    cases e with
    | normal => exact K.idle rfl (fun _ => stepG_end) (fin σ' A' M' ρ' a' w' h1 h2 h3 h4 h5 [])
    | ret => exact fin σ' A' M' ρ' a' w' h1 h2 h3 h4 h5
    | _ => exact h5.elim
end Go.Proofs.YtpdojmebloekgaaDoor.Nice.Co
namespace Go.Proofs.YtpdojmebloekgaaDoor.Nice.Co
open Go Go.Conc
set_option linter.unusedVariables false
set_option linter.unusedSimpArgs false
/-- Lists nothing, in whatever world, and leaves what is there. -/
structure Still (P : Program) {α : Type} (s : Sem α) : Prop where
  out : ∀ w es e, e ∈ s.events P w es → e ∈ es ∨ e = noRoomEvent
  keep : ∀ w a w', s.run P w = .ok a w' → ∀ (b : Nat) (o : Obj), w.heap[b]? = some o → w'.heap[b]? = some o
section
variable {P : Program} {α β : Type}
theorem Still.pure (a : α) : Still P (Pure.pure a : Sem α) := ⟨fun w es e h => .inl h, fun w a w' h b o hb => by cases h; exact hb⟩
theorem Still.halt (h : Halt) : Still P (Sem.halt h : Sem α) := ⟨fun w es e h => .inl h, fun w a w' h => by cases h⟩
theorem Still.bind {s : Sem α} {f : α → Sem β} (hs : Still P s) (hf : ∀ a, Still P (f a)) : Still P (s >>= f) := by
  constructor
  · intro w es e h
    rw [Sem.events_bind] at h
    cases hr : s.run P w with
    | halt x w' => rw [hr] at h; exact hs.out w es e h
    | ok a w' =>
      rw [hr] at h
      rcases (hf a).out w' _ e h with h | h
      · exact hs.out w es e h
      · exact .inr h
  · intro w a w' h b o hb
    rw [Sem.run_bind] at h
    cases hr : s.run P w with
    | halt x w1 => rw [hr] at h; cases h
    | ok x w1 => rw [hr] at h; exact (hf x).keep w1 a w' h b o (hs.keep w x w1 hr b o hb)
theorem Still.map {s : Sem α} {f : α → β} (hs : Still P s) : Still P (Functor.map f s) := by
  show Still P (s.bind fun a => Pure.pure (f a))
  exact hs.bind fun a => .pure _
theorem Still.program : Still P Go.program := ⟨fun w es e h => .inl h, fun w a w' h b o hb => by cases h; exact hb⟩
theorem Still.newObj (o : Obj) : Still P (Go.newObj o) := ⟨fun w es e h => .inl h, fun w a w' h b o' hb => by
  cases h
  show (w.heap.push o)[b]? = some o'
  rw [Array.getElem?_push, if_neg]
  · exact hb
  · have := (Array.getElem?_eq_some_iff.1 hb).1; omega⟩
theorem Still.shape (r : Nat) : Still P (Go.shape r) := ⟨fun w es e h => .inl h, fun w a w' h b o hb => by cases h; exact hb⟩
theorem Still.frozen (a : Addr) : Still P (Go.frozen a) := ⟨fun w es e h => .inl h, fun w a w' h b o hb => by cases h; exact hb⟩
theorem Still.choose (q : Question) : Still P (Go.choose q) := ⟨fun w es e h => by rw [events_choose] at h; exact .inl h, fun w a w' h b o hb => by
  simp only [Go.choose, Sem.run] at h
  split at h <;> (cases h; exact hb)⟩
theorem Still.typeInfo (t : TypeId) : Still P (Go.typeInfo t) := by
  unfold Go.typeInfo
  refine .bind .program fun p => ?_
  split <;> first | exact .pure _ | exact .halt _
theorem Still.underlying (t : TypeId) : Still P (Go.underlying t) := by
  unfold Go.underlying
  refine .bind .program fun p => ?_
  split <;> first | exact .pure _ | exact .halt _
theorem Still.sizeOf (t : TypeId) : Still P (Go.sizeOf t) := .bind (.typeInfo t) fun _ => .pure _
theorem Still.isAgg (t : TypeId) : Still P (Go.isAgg t) := by
  unfold Go.isAgg
  refine .bind (.underlying t) fun p => ?_
  split <;> exact .pure _
theorem Still.zeroValue (t : TypeId) : Still P (Go.zeroValue t) := by
  unfold Go.zeroValue
  refine .bind (.typeInfo t) fun p => ?_
  split <;> first | exact .pure _ | exact .halt _
theorem Still.noRoom : Still P (mark .noRoom) := ⟨fun w es e h => by
  rw [events_mark] at h
  exact (Array.mem_push.1 h).imp id id, fun w a w' h b o hb => by cases h; exact hb⟩
theorem Still.askRoom (n : Nat) : Still P (Go.askRoom n) := by
  unfold Go.askRoom
  split
  · exact .noRoom
  · exact .pure _
theorem Still.runtimePanic (x : RuntimeError) : Still P (Go.runtimePanic x : Sem α) := by
  unfold Go.runtimePanic elemOf newVar newRow
  refine .bind .program fun p => ?_
  cases x <;> first | exact .halt _ | skip
  all_goals
    refine .bind (.bind (.underlying _) fun t => ?_) fun t => .bind (.bind (.newObj _) fun _ => .pure _) fun _ => .halt _
    split <;> first | exact .pure _ | exact .halt _
theorem Still.boundsPanic (k : IntKind) (x y : Int) (c : BoundsCode) : Still P (Go.boundsPanic k x y c : Sem α) := by
  unfold Go.boundsPanic
  dsimp only
  split
  · exact .bind (.map (.choose _)) fun _ => .runtimePanic _
  · exact .bind (.pure _) fun _ => .runtimePanic _
theorem Still.asIntOf (v : Value) : Still P (Go.asIntOf v) := by
  unfold Go.asIntOf
  split <;> first | exact .pure _ | exact .halt _
theorem Still.asInt (v : Value) : Still P (Go.asInt v) := .bind (.asIntOf v) fun _ => .pure _
theorem Still.part (t : TypeId) (cs : Array Value) (o : Nat) : Still P (Go.part t cs o) := by
  unfold Go.part
  refine .bind (.isAgg _) fun b => ?_
  split
  · exact .bind (.sizeOf _) fun _ => .pure _
  · split <;> first | exact .pure _ | exact .halt _
theorem still_alloc (t : TypeId) : Still P (Instr.alloc t true (.tuple #[])) := by
  unfold Instr.alloc newVar newRow
  (repeat (first
    | exact Still.pure _
    | exact Still.halt _
    | exact Still.typeInfo _
    | exact Still.underlying _
    | exact Still.sizeOf _
    | exact Still.isAgg _
    | exact Still.zeroValue _
    | exact Still.choose _
    | exact Still.program
    | exact Still.newObj _
    | exact Still.shape _
    | exact Still.frozen _
    | exact Still.askRoom _
    | exact Still.runtimePanic _
    | exact Still.boundsPanic _ _ _ _
    | exact Still.asIntOf _
    | exact Still.asInt _
    | exact Still.part _ _ _
    | apply Still.map
    | apply Still.bind
    | intro _
    | split
    | (dsimp only)))
theorem still_box (t : TypeId) (v : Value) : Still P (Instr.box t v) := by
  unfold Instr.box newVar newRow
  (repeat (first
    | exact Still.pure _
    | exact Still.halt _
    | exact Still.typeInfo _
    | exact Still.underlying _
    | exact Still.sizeOf _
    | exact Still.isAgg _
    | exact Still.zeroValue _
    | exact Still.choose _
    | exact Still.program
    | exact Still.newObj _
    | exact Still.shape _
    | exact Still.frozen _
    | exact Still.askRoom _
    | exact Still.runtimePanic _
    | exact Still.boundsPanic _ _ _ _
    | exact Still.asIntOf _
    | exact Still.asInt _
    | exact Still.part _ _ _
    | apply Still.map
    | apply Still.bind
    | intro _
    | split
    | (dsimp only)))
theorem still_mapM {f : α → Sem β} (hf : ∀ a, Still P (f a)) : ∀ (l : List α), Still P (l.mapM f)
  | [] => by rw [List.mapM_nil]; exact .pure _
  | a :: l => by rw [List.mapM_cons]; exact .bind (hf a) fun _ => .bind (still_mapM hf l) fun _ => .pure _
theorem still_build (t : TypeId) (ps : Array (Nat × Value)) : Still P (Instr.build t ps) := by
  unfold Instr.build
  refine .bind (.zeroValue _) fun z => .bind (.underlying _) fun d => ?_
  split
  · refine .bind ?_ fun _ => ?_
    · rw [Array.mapM_eq_mapM_toList]
      exact .map (still_mapM (fun f => .bind (.sizeOf _) fun _ => .pure _) _)
    · split <;> first | exact .pure _ | exact .halt _
  · refine .bind (.sizeOf _) fun _ => ?_
    split <;> first | exact .pure _ | exact .halt _
  · exact .halt _
theorem still_buildSlice (t : TypeId) (n : Nat) (ps : Array (Nat × Value)) : Still P (Instr.buildSlice t n ps) := by
  unfold Instr.buildSlice newRow
  (repeat (first
    | exact Still.pure _
    | exact Still.halt _
    | exact Still.typeInfo _
    | exact Still.underlying _
    | exact Still.sizeOf _
    | exact Still.isAgg _
    | exact Still.zeroValue _
    | exact Still.choose _
    | exact Still.program
    | exact Still.newObj _
    | exact Still.shape _
    | exact Still.frozen _
    | exact Still.askRoom _
    | exact Still.runtimePanic _
    | exact Still.boundsPanic _ _ _ _
    | exact Still.asIntOf _
    | exact Still.asInt _
    | exact Still.part _ _ _
    | apply Still.map
    | apply Still.bind
    | intro _
    | split
    | (dsimp only)))
theorem still_indexAt (t : TypeId) (x i : Value) : Still P (Instr.indexAt t x i) := by
  unfold Instr.indexAt Instr.sureAddr
  (repeat (first
    | exact Still.pure _
    | exact Still.halt _
    | exact Still.typeInfo _
    | exact Still.underlying _
    | exact Still.sizeOf _
    | exact Still.isAgg _
    | exact Still.zeroValue _
    | exact Still.choose _
    | exact Still.program
    | exact Still.newObj _
    | exact Still.shape _
    | exact Still.frozen _
    | exact Still.askRoom _
    | exact Still.runtimePanic _
    | exact Still.boundsPanic _ _ _ _
    | exact Still.asIntOf _
    | exact Still.asInt _
    | exact Still.part _ _ _
    | apply Still.map
    | apply Still.bind
    | intro _
    | split
    | (dsimp only)))
theorem still_index (t : TypeId) (x i : Value) : Still P (Instr.index t x i) := by
  unfold Instr.index
  (repeat (first
    | exact Still.pure _
    | exact Still.halt _
    | exact Still.typeInfo _
    | exact Still.underlying _
    | exact Still.sizeOf _
    | exact Still.isAgg _
    | exact Still.zeroValue _
    | exact Still.choose _
    | exact Still.program
    | exact Still.newObj _
    | exact Still.shape _
    | exact Still.frozen _
    | exact Still.askRoom _
    | exact Still.runtimePanic _
    | exact Still.boundsPanic _ _ _ _
    | exact Still.asIntOf _
    | exact Still.asInt _
    | exact Still.part _ _ _
    | apply Still.map
    | apply Still.bind
    | intro _
    | split
    | (dsimp only)))
theorem still_field (t : TypeId) (x : Value) (f : Nat) : Still P (Instr.field t x f) := by
  unfold Instr.field asAgg
  (repeat (first
    | exact Still.pure _
    | exact Still.halt _
    | exact Still.typeInfo _
    | exact Still.underlying _
    | exact Still.sizeOf _
    | exact Still.isAgg _
    | exact Still.zeroValue _
    | exact Still.choose _
    | exact Still.program
    | exact Still.newObj _
    | exact Still.shape _
    | exact Still.frozen _
    | exact Still.askRoom _
    | exact Still.runtimePanic _
    | exact Still.boundsPanic _ _ _ _
    | exact Still.asIntOf _
    | exact Still.asInt _
    | exact Still.part _ _ _
    | apply Still.map
    | apply Still.bind
    | intro _
    | split
    | (dsimp only)))
theorem still_makeSlice (t : TypeId) (x c : Value) : Still P (Instr.makeSlice t x c) := by
  unfold Instr.makeSlice newRow
  (repeat (first
    | exact Still.pure _
    | exact Still.halt _
    | exact Still.typeInfo _
    | exact Still.underlying _
    | exact Still.sizeOf _
    | exact Still.isAgg _
    | exact Still.zeroValue _
    | exact Still.choose _
    | exact Still.program
    | exact Still.newObj _
    | exact Still.shape _
    | exact Still.frozen _
    | exact Still.askRoom _
    | exact Still.runtimePanic _
    | exact Still.boundsPanic _ _ _ _
    | exact Still.asIntOf _
    | exact Still.asInt _
    | exact Still.part _ _ _
    | apply Still.map
    | apply Still.bind
    | intro _
    | split
    | (dsimp only)))
theorem still_fieldAt (t : TypeId) (x : Value) (f : Nat) (h : ∀ fs (d : Field), P.underlying t = some (.struct fs) → fs[f]? = some d → ∃ i, P.info? d.type = some i ∧ 0 < i.size) : ∀ w es e, e ∈ (Instr.fieldAt t x f).events P w es → e ∈ es := by
  intro w es e he
  unfold Instr.fieldAt Instr.sureAddr at he
  rw [Sem.events_bind, events_underlying] at he
  cases hu : P.underlying t with
  | none =>
    have : (Go.underlying t).run P w = .halt (.stuck "no such type") w := by simp [Go.underlying, hu, stuck, Sem.run]
    rw [this] at he; exact he
  | some d =>
    rw [run_underlying hu, Result.evThen_ok] at he
    revert he
    cases d with
    | struct fs =>
      simp only
      cases hf : fs[f]? with
      | none => simp only; exact fun he => he
      | some fd =>
        simp only
        obtain ⟨i, hi, hpos⟩ := h fs fd hu hf
        intro he
        rw [Sem.events_bind] at he
        cases x with
        | pointer p =>
          cases p with
          | some a =>
            simp only [Sem.run_pure, Sem.events_pure, Result.evThen_ok] at he
            have hz : ¬ i.size = 0 := by omega
            unfold fieldPlace at he
            simp [Go.sizeOf, Go.typeInfo, hi, hz] at he
            exact he
          | none => exact he
        | _ => exact he
    | _ => exact fun he => he
end
/-- What an operation lists, where memory is touched in known blocks alone. -/
def At (P : Program) (R Wr : Nat → Prop) {α : Type} (s : Sem α) (w : World) : Prop :=
  ∀ es e, e ∈ s.events P w es → e ∈ es ∨ (∃ ad y, e = ⟨.cell ad, false, y⟩ ∧ R ad.block) ∨ (∃ ad y, e = ⟨.cell ad, true, y⟩ ∧ Wr ad.block) ∨ e = noRoomEvent
section
variable {P : Program} {R Wr : Nat → Prop} {α β : Type} {w : World}
theorem Still.at {s : Sem α} (h : Still P s) : At P R Wr s w := fun es e he => (h.out w es e he).imp id fun h => .inr (.inr h)
theorem At.bind {s : Sem α} {f : α → Sem β} (hs : At P R Wr s w) (hf : ∀ a w', s.run P w = .ok a w' → At P R Wr (f a) w') : At P R Wr (s >>= f) w := by
  intro es e h
  rw [Sem.events_bind] at h
  cases hr : s.run P w with
  | halt x w' => rw [hr] at h; exact hs es e h
  | ok a w' =>
    rw [hr] at h
    rcases hf a w' hr _ e h with h | h
    · exact hs es e h
    · exact .inr h
/-- The block of cells at an address. -/
def CellsAt (w : World) (b : Nat) : Prop := ∃ cs T fz, w.heap[b]? = some (.cells cs T fz)
theorem at_load {a : Addr} (hc : CellsAt w a.block) (hr : R a.block) : At P R Wr (load a) w := by
  intro es e he
  rw [events_load] at he
  obtain ⟨cs, T, fz, hb⟩ := hc
  split at he
  · rcases Array.mem_push.1 he with h | rfl
    · exact .inl h
    · exact .inr (.inl ⟨a, _, rfl, hr⟩)
  · simp only [World.farLoad, hb] at he
    exact .inl he
theorem run_load_world {a : Addr} {v : Value} {w' : World} (h : (load a).run P w = .ok v w') : w' = w := by
  simp only [load, Sem.run] at h
  split at h
  · cases h; rfl
  · split at h
    · cases h; rfl
    · cases h
theorem add_blk (a : Addr) (n : Nat) : (a.add n).block = a.block := by unfold Addr.add; split <;> rfl
theorem at_loadCellsFrom {a : Addr} (hc : CellsAt w a.block) (hr : R a.block) : ∀ (n i : Nat) (acc : Array Value), At P R Wr (loadCellsFrom a i n acc) w
  | 0, i, acc => (Still.pure _).at
  | n + 1, i, acc => by
    unfold loadCellsFrom
    refine .bind (at_load (by rw [add_blk]; exact hc) (by rw [add_blk]; exact hr)) fun v w' hv => ?_
    rw [run_load_world hv]
    exact at_loadCellsFrom hc hr n (i + 1) _
theorem at_store {a : Addr} {v : Value} (hc : CellsAt w a.block) (hr : Wr a.block) : At P R Wr (store a v) w := by
  intro es e he
  obtain ⟨cs, T, fz, hb⟩ := hc
  by_cases h1 : v.oneCell' = true
  · rw [events_store P w es a v _ h1] at he
    split at he
    · split at he
      · exact .inl he
      · rcases Array.mem_push.1 he with h | rfl
        · exact .inl h
        · exact .inr (.inr (.inl ⟨a, _, rfl, hr⟩))
    · simp only [World.farStore, hb] at he
      exact .inl he
  · cases v <;> first | (exact absurd rfl h1) | (simp only [store, Sem.events, Sem.runT] at he; exact .inl he)
theorem run_store_cells {a : Addr} {v : Value} {w' : World} (h : (store a v).run P w = .ok () w') {b : Nat} (hc : CellsAt w b) (ha : CellsAt w a.block) : CellsAt w' b := by
  obtain ⟨cs, T, fz, hb⟩ := hc
  obtain ⟨cs', T', fz', hb'⟩ := ha
  have key : w' = w.setCell a v → CellsAt w' b := by
    rintro rfl
    unfold World.setCell CellsAt
    simp only [Array.getElem?_modify]
    by_cases e : a.block = b
    · subst e; rw [hb]; simp
    · simp [e, hb]
  by_cases h1 : v.oneCell' = true
  · rw [run_store P w a v _ h1] at h
    split at h
    · split at h
      · cases h
      · cases h; exact key rfl
    · simp only [World.farStore, hb'] at h; cases h
  · cases v <;> first | (exact absurd rfl h1) | (simp only [store, Sem.run] at h; cases h)
theorem at_storeCells {a : Addr} (hr : Wr a.block) : ∀ (vs : List Value) (i : Nat) (w : World), CellsAt w a.block → At P R Wr (storeCells a vs i) w
  | [], i, w, hc => (Still.pure _).at
  | v :: vs, i, w, hc => by
    unfold storeCells
    refine .bind (at_store (by rw [add_blk]; exact hc) (by rw [add_blk]; exact hr)) fun _ w' hv => ?_
    exact at_storeCells hr vs (i + 1) w' (run_store_cells hv hc (by rw [add_blk]; exact hc))
theorem at_loadVar {t : TypeId} {a : Addr} (hc : CellsAt w a.block) (hr : R a.block) : At P R Wr (loadVar t a) w := by
  unfold loadVar loadCells
  have one : ∀ {s : Sem Bool} {b : Bool} {w' : World}, s = isAgg t → s.run P w = .ok b w' → w' = w := by
    rintro s b w' rfl h
    unfold isAgg Go.underlying at h
    simp only [Sem.run_bind, run_program, Result.andThen_ok] at h
    cases hu : P.underlying t with
    | none => rw [hu] at h; simp only [stuck, Sem.run, Result.andThen] at h; cases h
    | some d => rw [hu] at h; simp only [Sem.run_pure, Result.andThen_ok] at h; cases d <;> (simp only [Sem.run_pure] at h; cases h; rfl)
  have two : ∀ {n : Nat} {w' : World}, (Go.sizeOf t).run P w = .ok n w' → w' = w := by
    intro n w' h
    unfold Go.sizeOf Go.typeInfo at h
    simp only [Sem.run_bind, run_program, Result.andThen_ok] at h
    cases hu : P.info? t with
    | none => rw [hu] at h; simp only [stuck, Sem.run, Result.andThen] at h; cases h
    | some d => rw [hu] at h; simp only [Sem.run_pure, Result.andThen_ok] at h; cases h; rfl
  refine .bind (Still.at (.isAgg t)) fun b w' hb => ?_
  rw [one rfl hb]
  split
  · refine .bind (Still.at (.sizeOf t)) fun n w' hn => ?_
    rw [two hn]
    exact .bind (at_loadCellsFrom hc hr _ _ _) fun _ _ _ => (Still.pure _).at
  · exact at_load hc hr
theorem at_storeVar {t : TypeId} {a : Addr} {v : Value} (hc : CellsAt w a.block) (hr : Wr a.block) : At P R Wr (storeVar t a v) w := by
  unfold storeVar
  have two : ∀ {n : Nat} {w' : World}, (Go.sizeOf t).run P w = .ok n w' → w' = w := by
    intro n w' h
    unfold Go.sizeOf Go.typeInfo at h
    simp only [Sem.run_bind, run_program, Result.andThen_ok] at h
    cases hu : P.info? t with
    | none => rw [hu] at h; simp only [stuck, Sem.run, Result.andThen] at h; cases h
    | some d => rw [hu] at h; simp only [Sem.run_pure, Result.andThen_ok] at h; cases h; rfl
  refine .bind (Still.at (.sizeOf t)) fun n w' hn => ?_
  rw [two hn]
  split
  · exact .bind (Still.halt _).at fun _ w' h => by simp only [stuck, Sem.run] at h; cases h
  · exact at_storeCells hr _ _ _ hc
/-- The same, where certain blocks hold cells, and go on to hold them. -/
structure Ax (P : Program) (S R Wr : Nat → Prop) {α : Type} (s : Sem α) : Prop where
  at_ : ∀ w, (∀ b, S b → CellsAt w b) → At P R Wr s w
  keep : ∀ w, (∀ b, S b → CellsAt w b) → ∀ a w', s.run P w = .ok a w' → ∀ b, S b → CellsAt w' b
theorem Still.ax {S : Nat → Prop} {s : Sem α} (h : Still P s) : Ax P S R Wr s := ⟨fun w _ => h.at, fun w hS a w' hr b hb => let ⟨cs, T, fz, ho⟩ := hS b hb; ⟨cs, T, fz, h.keep w a w' hr b _ ho⟩⟩
theorem Ax.bind {S : Nat → Prop} {s : Sem α} {f : α → Sem β} (hs : Ax P S R Wr s) (hf : ∀ a, (∃ w w', s.run P w = .ok a w') → Ax P S R Wr (f a)) : Ax P S R Wr (s >>= f) := by
  refine ⟨fun w hS => .bind (hs.at_ w hS) fun a w' hr => (hf a ⟨w, w', hr⟩).at_ w' (hs.keep w hS a w' hr), fun w hS a w' h => ?_⟩
  rw [Sem.run_bind] at h
  cases hr : s.run P w with
  | halt x w1 => rw [hr] at h; cases h
  | ok x w1 => rw [hr] at h; exact (hf x ⟨w, w1, hr⟩).keep w1 (hs.keep w hS x w1 hr) a w' h
theorem ax_first {S : Nat → Prop} {size n m c : Nat} {ba : Option Addr} (h : n = 0 ∨ ∃ ad, ba = some ad ∧ S ad.block ∧ R ad.block) : Ax P S R Wr (Builtin.firstCells size n (.slice ba m c)) := by
  have one : ∀ (a : Addr), S a.block → R a.block → ∀ (k i : Nat) (acc : Array Value), Ax P S R Wr (loadCellsFrom a i k acc) := by
    intro a h1 h2 k
    induction k with
    | zero => intro i acc; exact (Still.pure _).ax
    | succ k ih =>
      intro i acc
      unfold loadCellsFrom
      refine .bind ⟨fun w hS => at_load (by rw [add_blk]; exact hS _ h1) (by rw [add_blk]; exact h2), fun w hS v w' hv b hb => ?_⟩ fun v _ => ih _ _
      rw [run_load_world hv]; exact hS b hb
  unfold Builtin.firstCells loadCells
  cases ba with
  | none => exact (Still.pure _).ax
  | some a =>
    rcases h with rfl | ⟨ad, e, h1, h2⟩
    · rw [Nat.zero_mul]; exact (Still.pure _).ax
    · cases e; exact one _ h1 h2 _ _ _
theorem ax_store {S : Nat → Prop} {a : Addr} (h1 : S a.block) (h2 : Wr a.block) : ∀ (vs : List Value) (i : Nat), Ax P S R Wr (storeCells a vs i)
  | [], i => (Still.pure _).ax
  | v :: vs, i => by
    unfold storeCells
    refine .bind ⟨fun w hS => at_store (by rw [add_blk]; exact hS _ h1) (by rw [add_blk]; exact h2), fun w hS _ w' hv b hb => run_store_cells hv (hS b hb) (by rw [add_blk]; exact hS _ h1)⟩ fun _ _ => ax_store h1 h2 vs _
theorem still_mayShare (size l n : Nat) (base : Option Addr) (x : Value) : Still P (Builtin.mayShare size l n base x) := by
  unfold Builtin.mayShare Builtin.holdsCells
  (repeat (first
    | exact Still.pure _
    | exact Still.halt _
    | exact Still.typeInfo _
    | exact Still.underlying _
    | exact Still.sizeOf _
    | exact Still.isAgg _
    | exact Still.zeroValue _
    | exact Still.choose _
    | exact Still.program
    | exact Still.newObj _
    | exact Still.shape _
    | exact Still.frozen _
    | exact Still.askRoom _
    | exact Still.runtimePanic _
    | exact Still.boundsPanic _ _ _ _
    | exact Still.asIntOf _
    | exact Still.asInt _
    | exact Still.part _ _ _
    | apply Still.map
    | apply Still.bind
    | intro _
    | split
    | (dsimp only)))
end
end Go.Proofs.YtpdojmebloekgaaDoor.Nice.Co
namespace Go.Proofs.YtpdojmebloekgaaDoor.Nice.Co
open Go Go.Conc
set_option linter.unusedVariables false
set_option linter.unusedSimpArgs false
theorem opEv_still {C : Ctx} {o : Oper} {v : Operand → SV} {bs : List (Nat × Blk)} (H : ∀ (M F : Imm) (ρ : Names) (a : Act) (h : Heap) (w : World), (∀ x, x ∈ o.op.operands → VR M ρ (v x) (a.eval x)) → HR M F ρ h w → (∀ p, p ∈ bs → h p.1 = some p.2) → Still C.P (execOp a.eval o)) : OpEv C o v bs :=
  fun M F ρ a h w hv hH hbs e he => by
    rcases (H M F ρ a h w hv hH hbs).out w #[] e he with h | h
    · simp at h
    · exact .inr (.inr h)
theorem opEv_at {C : Ctx} {o : Oper} {v : Operand → SV} {bs : List (Nat × Blk)} (H : ∀ (M F : Imm) (ρ : Names) (a : Act) (h : Heap) (w : World), (∀ x, x ∈ o.op.operands → VR M ρ (v x) (a.eval x)) → HR M F ρ h w → (∀ p, p ∈ bs → h p.1 = some p.2) →
    At C.P (fun b => M b ≠ none ∨ OwnB ρ h b) (fun b => OwnB ρ h b) (execOp a.eval o) w) : OpEv C o v bs :=
  fun M F ρ a h w hv hH hbs e he => by
    rcases H M F ρ a h w hv hH hbs #[] e he with h | h
    · simp at h
    · exact h
theorem Still.val {P : Program} {s : Sem Value} (h : Still P s) : Still P (s >>= fun x => Pure.pure (Next.value x) : Sem Next) := .bind h fun _ => .pure _
theorem pvS_still {P : Program} {α : Type} {s : Sem α} {a : α} (h : pvS P s = some a) : Still P s := by
  constructor
  · intro w es e he
    induction s with
    | pure b => exact .inl he
    | program k ih => simp only [pvS] at h; exact ih P h he
    | _ => simp [pvS] at h
  · intro w a' w' hr b o hb
    rw [pvS_run h w] at hr
    cases hr; exact hb
theorem pureS_ev {C : Ctx} {o : Oper} {v : Operand → SV} {x : Out} (e : pureS C.P o v = some x) : OpEv C o v x.2.1 ∧ OpVal C o v x.2.1 := by
  unfold pureS at e
  split at e
  · cases e
  next hsel =>
  split at e
  next hall =>
    split at e
    next r hr =>
      split at e
      next h1 =>
        cases e
        have hc : ∀ (M : Imm) (ρ : Names) (a : Act), (∀ x, x ∈ o.op.operands → VR M ρ (v x) (a.eval x)) → execOp (rhoOf v) o = execOp a.eval o := by
          intro M ρ a hv
          refine execOp_congr o (fun cs b hcs => by simp [hcs, isSelect] at hsel) fun y hy => ?_
          obtain ⟨u, hu⟩ := allVal_get hall y (Array.mem_toList_iff.2 hy)
          have := hv y hy
          rw [hu] at this
          rw [this.val]
          simp [rhoOf, hu, valOf]
        refine ⟨opEv_still fun M F ρ a h w hv _ _ => by rw [← hc M ρ a hv]; exact pvS_still hr, fun M F ρ a h w hv _ _ r' w' hr' => ?_⟩
        rw [← hc M ρ a hv, pvS_run hr w] at hr'
        cases hr'; trivial
      · cases e
    · cases e
  · cases e
/- where an address told so lies -/
theorem own_blk {M F : Imm} {ρ : Names} {h : Heap} {w : World} (H : HR M F ρ h w) {n : Nat} {blk : Blk} (hn : h n = some blk) (hb : (∃ ty k xs, blk = .cells ty k xs) ∨ ∃ ty k len f, blk = .rows ty k len f ∧ 0 < len) {x : Own} (hx : ρ n = some x) :
    0 < x.R ∧ CellsAt w x.b ∧ OwnB ρ h x.b := by
  obtain ⟨x', hx', hr⟩ := H.live n blk hn
  rw [hx] at hx'; obtain rfl := Option.some.inj hx'
  rcases hr with ⟨_, hg⟩ | ⟨h0, _, _, o, h3, h4⟩
  · exfalso
    rcases hb with ⟨ty, k, xs, rfl⟩ | ⟨ty, k, len, f, rfl, hl⟩
    · cases hg
    · cases len with
      | zero => omega
      | succ l => cases hg
  · refine ⟨h0, ?_, n, blk, x, hn, hx, h0, rfl⟩
    rcases hb with ⟨ty, k, xs, rfl⟩ | ⟨ty, k, len, f, rfl, hl⟩ <;> cases o <;> first | exact h4.elim | exact ⟨_, _, _, h3⟩
theorem load_addr {a : SV} {h0 : Heap} {n : Nat} {vc : Prop} {bs : List (Nat × Blk)} {ys : List SV} (e : cellsAt a h0 n = some (vc, bs, ys)) (hvc : vc) {M F : Imm} {ρ : Names} {h : Heap} {w : World} {u : Value} (hv : VR M ρ a u) (H : HR M F ρ h w) (hbs : ∀ p, p ∈ bs → h p.1 = some p.2) :
    ∃ ad, u = .pointer (some ad) ∧ CellsAt w ad.block ∧ (M ad.block ≠ none ∨ OwnB ρ h ad.block) := by
  unfold cellsAt at e
  split at e
  · next m i c =>
    split at e
    · next ty k xs hm =>
      split at e
      · cases e
        cases hv with
        | ptr _ _ _ x hx =>
          obtain ⟨_, h1, h2⟩ := own_blk H (hbs (m, .cells ty k xs) (by simp)) (.inl ⟨_, _, _, rfl⟩) hx
          exact ⟨_, rfl, h1, .inr h2⟩
      · cases e
    · next ty k len f hm =>
      split at e
      · cases e
        cases hv with
        | ptr _ _ _ x hx =>
          obtain ⟨_, h1, h2⟩ := own_blk H (hbs (m, .rows ty k len f) (by simp)) (.inr ⟨_, _, _, _, rfl, by omega⟩) hx
          exact ⟨_, rfl, h1, .inr h2⟩
      · cases e
    · cases e
  · split at e
    · cases e
      cases hv with
      | vp _ _ _ _ _ b o cur T fz g hb hg hr => exact ⟨_, rfl, ⟨_, _, _, H.imm _ _ hb⟩, .inl (by show M b ≠ none; rw [hb]; simp)⟩
    · cases e
  · cases e
theorem loadS_addr {P : Program} {t : TypeId} {a : SV} {h0 : Heap} {vc : Prop} {bs : List (Nat × Blk)} {s : SV} (e : loadS P t a h0 = some (vc, bs, s)) (hvc : vc) {M F : Imm} {ρ : Names} {h : Heap} {w : World} {u : Value} (hv : VR M ρ a u) (H : HR M F ρ h w) (hbs : ∀ p, p ∈ bs → h p.1 = some p.2) :
    ∃ ad, u = .pointer (some ad) ∧ CellsAt w ad.block ∧ (M ad.block ≠ none ∨ OwnB ρ h ad.block) := by
  unfold loadS at e
  split at e
  · split at e
    · split at e
      · next hc => cases e; exact load_addr hc hvc hv H hbs
      · cases e
    · cases e
  · split at e
    · next hc => cases e; exact load_addr hc hvc hv H hbs
    · cases e
  · cases e
theorem loadOp_ev {C : Ctx} {o : Oper} {v : Operand → SV} {h : Heap} {x : Out} {t : TypeId} {a : Operand} (ho : o.op = .load t a) (e : loadOp C.P t (v a) h = some x) (hvc : x.1) : OpEv C o v x.2.1 := by
  unfold loadOp at e
  split at e
  next vc bs u hl =>
    cases e
    refine opEv_at fun M F ρ a' h w hv hH hbs => ?_
    obtain ⟨ad, h1, h2, h3⟩ := loadS_addr hl hvc (hv a (by rw [ho]; simp [Op.operands])) hH hbs
    unfold execOp
    rw [ho]
    dsimp only
    unfold Instr.loadAt
    rw [h1]
    refine .bind (.bind (Still.pure ad).at fun ad' w' he => ?_) fun _ _ _ => (Still.pure _).at
    cases he
    exact at_loadVar h2 h3
  · cases e
theorem store_addr {a : SV} {h0 : Heap} {ys : List SV} {vc : Prop} {bs : List (Nat × Blk)} {wr : List (Nat × Option Blk)} (e : storeAtS a ys h0 = some (vc, bs, wr)) (hvc : vc) {M F : Imm} {ρ : Names} {h : Heap} {w : World} {u : Value} (hv : VR M ρ a u) (H : HR M F ρ h w) (hbs : ∀ p, p ∈ bs → h p.1 = some p.2) :
    ∃ ad, u = .pointer (some ad) ∧ CellsAt w ad.block ∧ OwnB ρ h ad.block := by
  unfold storeAtS at e
  split at e
  · next m i c =>
    split at e
    · next ty k xs hm =>
      split at e
      · cases e
        cases hv with
        | ptr _ _ _ x hx =>
          obtain ⟨_, h1, h2⟩ := own_blk H (hbs (m, .cells ty k xs) (by simp)) (.inl ⟨_, _, _, rfl⟩) hx
          exact ⟨_, rfl, h1, h2⟩
      · cases e
    · next ty k len f hm =>
      split at e
      · split at e
        · cases e
          cases hv with
          | ptr _ _ _ x hx =>
            obtain ⟨_, h1, h2⟩ := own_blk H (hbs (m, .rows ty k len f) (by simp)) (.inr ⟨_, _, _, _, rfl, by omega⟩) hx
            exact ⟨_, rfl, h1, h2⟩
        · cases e
      · cases e
    · cases e
  · cases e
theorem storeS_ev {C : Ctx} {o : Oper} {v : Operand → SV} {h : Heap} {x : Out} {t : TypeId} {a y : Operand} (ho : o.op = .store t a y) (e : storeS C.P t (v a) (v y) h = some x) (hvc : x.1) : OpEv C o v x.2.1 := by
  unfold storeS at e
  split at e
  · split at e
    · split at e
      · split at e
        · next vc bs wr hst =>
          cases e
          refine opEv_at fun M F ρ a' h w hv hH hbs => ?_
          obtain ⟨ad, h1, h2, h3⟩ := store_addr hst hvc (hv a (by rw [ho]; exact mem_ops2 (.inl rfl))) hH hbs
          unfold execOp
          rw [ho]
          dsimp only
          unfold Instr.storeAt
          rw [h1]
          refine .bind (.bind (Still.pure ad).at fun ad' w' he => ?_) fun _ _ _ => (Still.pure _).at
          cases he
          exact at_storeVar h2 h3
        · cases e
      · cases e
    · cases e
  · cases e
/- append -/
/-- A slice that is read or written behind its length: empty, or its block is known. -/
def SlcIn (w : World) (B : Nat → Prop) (n : Nat) : Value → Prop
  | .slice ba m _ => m = n ∧ (n = 0 ∨ ∃ ad, ba = some ad ∧ CellsAt w ad.block ∧ B ad.block)
  | _ => False
theorem src_addr {s : SV} {h0 : Heap} {k : Nat} {vc : Prop} {bs : List (Nat × Blk)} {blk : Blk} {m : Nat} (e : srcS s h0 k = some (vc, bs, blk, m)) (hvc : vc) {M F : Imm} {ρ : Names} {h : Heap} {w : World} {u : Value} (hv : VR M ρ s u) (H : HR M F ρ h w) (hbs : ∀ p, p ∈ bs → h p.1 = some p.2) :
    SlcIn w (fun b => M b ≠ none ∨ OwnB ρ h b) m u := by
  unfold srcS at e
  split at e
  · cases e
    cases hv with | d _ _ h => cases h; exact ⟨rfl, .inl rfl⟩
  · split at e
    · cases e
      cases hv with
      | d _ _ h =>
        cases h with
        | vec0 => exact ⟨rfl, .inl rfl⟩
        | vec _ _ _ b o cap cur T fz g hb hc hg hr => exact ⟨rfl, .inr ⟨_, rfl, ⟨_, _, _, H.imm _ _ hb⟩, .inl (by show M b ≠ none; rw [hb]; simp)⟩⟩
    · cases e
  · next n o len =>
    split at e
    · next ty k' xs hn =>
      split at e
      · cases e
        cases hv with
        | sl0 => exact ⟨rfl, .inl rfl⟩
        | sl _ _ _ x hx hl hR h0' =>
          obtain ⟨_, h1, h2⟩ := own_blk H (hbs (n, .cells ty k' xs) (by simp)) (.inl ⟨_, _, _, rfl⟩) hx
          exact ⟨rfl, .inr ⟨_, rfl, h1, .inr h2⟩⟩
      · cases e
    · next ty k' L f hn =>
      split at e
      · cases e
        cases hv with
        | sl0 => exact ⟨rfl, .inl rfl⟩
        | sl _ _ _ x hx hl hR h0' =>
          refine ⟨rfl, ?_⟩
          rcases Nat.eq_zero_or_pos m with hm | hm
          · exact .inl hm
          · obtain ⟨_, h1, h2⟩ := own_blk H (hbs (n, .rows ty k' L f) (by simp)) (.inr ⟨_, _, _, _, rfl, by omega⟩) hx
            exact .inr ⟨_, rfl, h1, .inr h2⟩
      · cases e
    · cases e
  · cases e
theorem ax_append {P : Program} {S R Wr : Nat → Prop} {t ty e : TypeId} (ht : P.underlying t = some (.slice e)) {ba xa : Option Addr} {l c k xc : Nat} (hs : l = 0 ∨ ∃ ad, ba = some ad ∧ S ad.block ∧ R ad.block) (hsw : c = 0 ∨ ∃ ad, ba = some ad ∧ S ad.block ∧ Wr ad.block)
    (hx : k = 0 ∨ ∃ ad, xa = some ad ∧ S ad.block ∧ R ad.block) : Ax P S R Wr (Builtin.append_ #[t, t] ty #[.slice ba l c, .slice xa k xc]) := by
  have un : ∀ {d : TypeDesc}, (∃ w w', (underlying t).run P w = .ok d w') → d = .slice e := by
    rintro d ⟨w, w', h⟩; rw [run_underlying ht] at h; cases h; rfl
  unfold Builtin.append_
  refine .bind (Still.underlying t).ax fun d hd => ?_
  obtain rfl := un hd
  refine .bind (Still.sizeOf e).ax fun size _ => ?_
  refine .bind (Still.underlying t).ax fun d hd => ?_
  obtain rfl := un hd
  refine .bind (Still.pure _).ax fun z hz => ?_
  obtain ⟨w0, w0', hz⟩ := hz
  obtain rfl : z = false := by cases hz; rfl
  simp only [Bool.false_eq_true, if_false, Bool.not_false, if_true, false_or]
  refine .bind (Still.pure _).ax fun n hn => ?_
  obtain ⟨w1, w1', hn⟩ := hn
  obtain rfl : n = k := by cases hn; rfl
  have rest : Ax P S R Wr (do
      let newCap ← choose (.appendCap (l + n) c e)
      let i ← typeInfo e
      askRoom (newCap * i.bytes)
      let old ← Builtin.firstCells size l (.slice ba l c)
      let new ← Builtin.firstCells size n (.slice xa n xc)
      let z ← zeroValue e
      let q ← newRow e (old ++ new ++ Builtin.zeroCells z.cells (newCap - (l + n)))
      pure (.slice (some q) (l + n) newCap) : Sem Value) := by
    refine .bind (Still.choose _).ax fun _ _ => .bind (Still.typeInfo _).ax fun _ _ => .bind (Still.askRoom _).ax fun _ _ => .bind (ax_first hs) fun _ _ => .bind (ax_first hx) fun _ _ => ?_
    unfold newRow
    exact Still.ax (.bind (.zeroValue _) fun _ => .bind (.bind (.newObj _) fun _ => .pure _) fun _ => .pure _)
  have lim : Ax P S R Wr (do
      let b ← Builtin.mayShare size l n ba (.slice xa n xc)
      if (!b) = true then do
          mark Mark.noRoom
          unsupported (Unsupported.resourceLimit "append: a slice or a string whose bytes no memory bears")
        else unsupported (Unsupported.resourceLimit "append: a slice or a string whose bytes no memory bears") : Sem Unit) := by
    refine .bind (still_mayShare _ _ _ _ _).ax fun _ _ => ?_
    split
    · exact Still.ax (.bind .noRoom fun _ => .halt _)
    · exact Still.ax (.halt _)
  have step2 : Ax P S R Wr (do
      let i ← typeInfo e
      if Builtin.nextslicecap (l + n) c * i.bytes > 2 ^ 48 then do
          (do let b ← Builtin.mayShare size l n ba (.slice xa n xc)
              if (!b) = true then do
                  mark Mark.noRoom
                  unsupported (Unsupported.resourceLimit "append: a slice or a string whose bytes no memory bears")
                else unsupported (Unsupported.resourceLimit "append: a slice or a string whose bytes no memory bears") : Sem Unit)
          let newCap ← choose (.appendCap (l + n) c e)
          let i ← typeInfo e
          askRoom (newCap * i.bytes)
          let old ← Builtin.firstCells size l (.slice ba l c)
          let new ← Builtin.firstCells size n (.slice xa n xc)
          let z ← zeroValue e
          let q ← newRow e (old ++ new ++ Builtin.zeroCells z.cells (newCap - (l + n)))
          pure (.slice (some q) (l + n) newCap)
        else do
          let newCap ← choose (.appendCap (l + n) c e)
          let i ← typeInfo e
          askRoom (newCap * i.bytes)
          let old ← Builtin.firstCells size l (.slice ba l c)
          let new ← Builtin.firstCells size n (.slice xa n xc)
          let z ← zeroValue e
          let q ← newRow e (old ++ new ++ Builtin.zeroCells z.cells (newCap - (l + n)))
          pure (.slice (some q) (l + n) newCap) : Sem Value) := by
    refine .bind (Still.typeInfo _).ax fun _ _ => ?_
    split
    · exact .bind lim fun _ _ => rest
    · exact rest
  split
  · next hle =>
    refine .bind (ax_first hx) fun new hnew => ?_
    cases ba with
    | none => exact (Still.pure _).ax
    | some a =>
      dsimp only
      refine .bind ?_ fun _ _ => (Still.pure _).ax
      rcases hsw with rfl | ⟨ad, e', g1, g2⟩
      · obtain rfl : n = 0 := by omega
        obtain ⟨w2, w2', h2⟩ := hnew
        have : new = #[] := by
          change (Builtin.firstCells size 0 (.slice xa 0 xc)).run P w2 = _ at h2
          unfold Builtin.firstCells loadCells at h2
          cases xa with
          | none => cases h2; rfl
          | some xa => simp only [Nat.zero_mul] at h2; cases h2; rfl
        subst this
        exact (Still.pure _).ax
      · cases e'
        exact ax_store (by rw [add_blk]; exact g1) (by rw [add_blk]; exact g2) _ _
  · refine .bind (Still.typeInfo _).ax fun _ _ => ?_
    split
    · exact .bind (Still.runtimePanic _).ax fun _ _ => step2
    · exact step2
theorem own_pos {M F : Imm} {ρ : Names} {h : Heap} {w : World} (H : HR M F ρ h w) {n : Nat} {blk : Blk} (hn : h n = some blk) (hb : (∃ ty k xs, blk = .cells ty k xs) ∨ ∃ ty k len f, blk = .rows ty k len f) {x : Own} (hx : ρ n = some x) (h0 : 0 < x.R) :
    CellsAt w x.b ∧ OwnB ρ h x.b := by
  obtain ⟨x', hx', hr⟩ := H.live n blk hn
  rw [hx] at hx'; obtain rfl := Option.some.inj hx'
  rcases hr with ⟨h00, hg⟩ | ⟨_, _, _, o, h3, h4⟩
  · omega
  · refine ⟨?_, n, blk, x, hn, hx, h0, rfl⟩
    rcases hb with ⟨ty, k, xs, rfl⟩ | ⟨ty, k, len, f, rfl⟩ <;> cases o <;> first | exact h4.elim | exact ⟨_, _, _, h3⟩
theorem dst_addr {M F : Imm} {ρ : Names} {h : Heap} {w : World} {s : SV} {u : Value} (hv : VR M ρ s u) (H : HR M F ρ h w) (hs : s = .d .nils ∨ ∃ n len blk, s = .sl n 0 len ∧ h n = some blk ∧ ((∃ ty k xs, blk = .cells ty k xs) ∨ ∃ ty k len f, blk = .rows ty k len f)) :
    ∃ ba l c, u = .slice ba l c ∧ (l = 0 ∨ ∃ ad, ba = some ad ∧ CellsAt w ad.block ∧ OwnB ρ h ad.block) ∧ (c = 0 ∨ ∃ ad, ba = some ad ∧ CellsAt w ad.block ∧ OwnB ρ h ad.block) := by
  rcases hs with rfl | ⟨n, len, blk, rfl, hn, hb⟩
  · cases hv with | d _ _ h => cases h; exact ⟨_, _, _, rfl, .inl rfl, .inl rfl⟩
  · cases hv with
    | sl0 => exact ⟨_, _, _, rfl, .inl rfl, .inl rfl⟩
    | sl _ _ _ x hx hl hR h0 =>
      obtain ⟨h1, h2⟩ := own_pos H hn hb hx h0
      exact ⟨_, _, _, rfl, .inr ⟨_, rfl, h1, h2⟩, .inr ⟨_, rfl, h1, h2⟩⟩
theorem append_ev {C : Ctx} {o : Oper} {nm : Nat} {v : Operand → SV} {h : Heap} {x : Out} {t : TypeId} {a b : Operand} (ho : o.op = .call { callee := .builtin .append, args := #[a, b], argTypes := #[t, t] }) (e : appendS C.P nm t (v a) (v b) h = some x) (hvc : x.1) : OpEv C o v x.2.1 := by
  have ma : a ∈ o.op.operands := by rw [ho]; simp [Op.operands, Call.operands]
  have mb : b ∈ o.op.operands := by rw [ho]; simp [Op.operands, Call.operands]
  have core : ∀ (el : TypeId) (bs bs' : List (Nat × Blk)) (vc : Prop) (k : Nat) (sb : Blk) (m : Nat), C.P.underlying t = some (.slice el) → srcS (v b) h k = some (vc, bs, sb, m) → vc → (∀ p, p ∈ bs → p ∈ bs') →
      (v a = .d .nils ∨ ∃ n len blk, v a = .sl n 0 len ∧ (n, blk) ∈ bs' ∧ ((∃ ty k xs, blk = .cells ty k xs) ∨ ∃ ty k len f, blk = .rows ty k len f)) → OpEv C o v bs' := by
    intro el bs bs' vc k sb m hel hsrc hvc hbs' hdst
    refine opEv_at fun M F ρ a' h' w hv hH hbs => ?_
    have h1 := src_addr hsrc hvc (hv b mb) hH (fun p hp => hbs p (hbs' p hp))
    obtain ⟨ba, l, c, q1, q2, q3⟩ := dst_addr (hv a ma) hH (hdst.imp id fun ⟨n, len, blk, g1, g2, g3⟩ => ⟨n, len, blk, g1, hbs _ g2, g3⟩)
    have ev : execOp a'.eval o = (do let x ← Builtin.append_ #[t, t] o.type #[a'.eval a, a'.eval b]; pure (Next.value x) : Sem Next) := by
      unfold execOp
      rw [ho]
      simp only [resolve, invoke, builtin, List.map_toArray, List.map_cons, List.map_nil]
      rfl
    rw [ev]
    generalize hqb : a'.eval b = qb at h1
    cases qb with
    | slice xa xl xc =>
      obtain ⟨rfl, h1⟩ := h1
      rw [q1]
      refine .bind ((ax_append (S := CellsAt w) hel (q2.imp id fun ⟨ad, g1, g2, g3⟩ => ⟨ad, g1, g2, .inr g3⟩) q3 h1).at_ w fun b hb => hb) fun _ _ _ => (Still.pure _).at
    | _ => exact h1.elim
  unfold appendS at e
  split at e
  · next el hel =>
    split at e
    · split at e
      · next vc bs sb m hsrc =>
        split at e
        · split at e
          · next hdst =>
            split at e
            · cases e; exact core el bs bs vc _ _ m hel hsrc hvc.1 (fun _ h => h) (.inl hdst)
            · split at e
              · cases e; exact core el bs bs vc _ _ m hel hsrc hvc.1 (fun _ h => h) (.inl hdst)
              · cases e
            · cases e
          · next n len hdst =>
            split at e
            · next ty k' xs hn =>
              split at e
              · split at e
                · cases e; exact core el bs _ vc _ _ m hel hsrc hvc.1 (fun _ h => List.mem_cons_of_mem _ h) (.inr ⟨n, len, _, hdst, List.mem_cons_self .., .inl ⟨_, _, _, rfl⟩⟩)
                · cases e
              · cases e
            · next ty k' L f hn =>
              split at e
              · split at e
                · cases e; exact core el bs _ vc _ _ m hel hsrc hvc.2.1 (fun _ h => List.mem_cons_of_mem _ h) (.inr ⟨n, len, _, hdst, List.mem_cons_self .., .inr ⟨_, _, _, _, rfl⟩⟩)
                · cases e
              · cases e
            · cases e
          · cases e
        · cases e
      · cases e
    · cases e
  · cases e
/- the rest -/
theorem still_binInt {P : Program} (op : BinOp) (t : TypeId) (x y : Operand) (k k' : IntKind) (a b : Int) : Still P (do eqGuard op t x y (.int k a) (.int k' b); binOp op t (.int k a) (.int k' b) : Sem Value) := by
  refine .bind ?_ fun _ => ?_
  · unfold eqGuard
    cases op <;> exact .pure _
  · unfold binOp
    cases op <;> simp only [] <;> (repeat (first | split | exact .halt _ | exact .pure _ | (unfold Op.shift) | (unfold Op.intArith) | (unfold Op.intDiv) | (unfold Op.intBits) | (unfold Op.intCmp) | exact .runtimePanic _))
theorem bin_ev {C : Ctx} {o : Oper} {v : Operand → SV} {bs : List (Nat × Blk)} {op : BinOp} {ty ty' : TypeId} {y z : Operand} {k k' : IntKind} {a b : Int} (ho : o.op = .binOp op ty y z ty') (hy : v y = .d (.val (.int k a))) (hz : v z = .d (.val (.int k' b))) : OpEv C o v bs := by
  refine opEv_still fun M F ρ a' h w hv _ _ => ?_
  have e1 := hv y (by rw [ho]; exact mem_ops2 (.inl rfl)); rw [hy] at e1
  have e2 := hv z (by rw [ho]; exact mem_ops2 (.inr rfl)); rw [hz] at e2
  unfold execOp
  rw [ho]
  dsimp only
  rw [e1.val, e2.val]
  exact .bind (still_binInt op ty y z k k' a b) fun _ => .pure _
/-- The operations that are borne beside others. -/
def evOK (v : Operand → SV) (o : Oper) : Bool :=
  match o.op with
  | .slice .. | .makeMap .. => false
  | .call ⟨.builtin .len, ⟨[y]⟩, ⟨[_]⟩⟩ => match v y with | .map _ => false | _ => true
  | .convert _ _ y => match v y with | .d (.val (.string _)) => false | _ => true
  | .binOp .eql _ _ (.const (.slice none 0 0)) _ | .binOp .neq _ _ (.const (.slice none 0 0)) _ => false
  | _ => true
def sopC (C : Ctx) (nm : Nat) (o : Oper) (v : Operand → SV) (h : Heap) : Option Out := bif evOK v o then sop C nm o v h else none
theorem sop_ev {C : Ctx} {nm : Nat} {o : Oper} {v : Operand → SV} {h : Heap} {x : Out} (e : sop C nm o v h = some x) (hev : evOK v o = true) (hvc : x.1) : OpEv C o v x.2.1 ∧ OpVal C o v x.2.1 := by
  have pl : plainOp o.op = true → OpEv C o v x.2.1 → OpEv C o v x.2.1 ∧ OpVal C o v x.2.1 := fun h1 h2 => ⟨h2, OpVal.plain h1⟩
  have sl : ∀ {s : Sem Value}, (∀ a : Act, ∃ s : Sem Value, execOp a.eval o = (do let x ← s; pure (Next.value x) : Sem Next) ∧ Still C.P s) → OpEv C o v x.2.1 := by
    intro _ hs
    refine opEv_still fun M F ρ a' h w hv _ _ => ?_
    obtain ⟨s, h1, h2⟩ := hs a'
    rw [h1]; exact .bind h2 fun _ => .pure _
  unfold sop at e
  split at e
  · next y ho => exact pl (by rw [ho]; rfl) (opEv_still fun M F ρ a' h w hv _ _ => by unfold execOp; rw [ho]; exact .pure _)
  · next y ho => exact pl (by rw [ho]; rfl) (opEv_still fun M F ρ a' h w hv _ _ => by unfold execOp; rw [ho]; exact .pure _)
  · next c a b ho => exact pl (by rw [ho]; rfl) (opEv_still fun M F ρ a' h w hv _ _ => by
      unfold execOp; rw [ho]
      refine .bind ?_ fun _ => ?_
      · unfold asBool; split <;> first | exact .pure _ | exact .halt _
      · exact .pure _)
  · next t ho => exact pl (by rw [ho]; rfl) (sl (s := pure undef) fun a => ⟨_, by unfold execOp; rw [ho], still_alloc t⟩)
  · next t y ho => exact pl (by rw [ho]; rfl) (sl (s := pure undef) fun a => ⟨_, by unfold execOp; rw [ho], still_box t _⟩)
  · next t ps ho => exact pl (by rw [ho]; rfl) (sl (s := pure undef) fun a => ⟨_, by unfold execOp; rw [ho], still_build t _⟩)
  · next t ho => exact pl (by rw [ho]; rfl) (sl (s := pure undef) fun a => ⟨_, by unfold execOp; rw [ho], still_buildSlice t _ _⟩)
  · next t len ps _ ho => exact pl (by rw [ho]; rfl) (sl (s := pure undef) fun a => ⟨_, by unfold execOp; rw [ho], still_buildSlice t _ _⟩)
  · next ho => exact pl (by rw [ho]; rfl) (loadOp_ev ho e hvc)
  · next ho => exact pl (by rw [ho]; rfl) (storeS_ev ho e hvc)
  · next y ho =>
    refine pl (by rw [ho]; rfl) (opEv_still fun M F ρ a' h w hv _ _ => ?_)
    have hy := hv y (by rw [ho]; exact mem_ops1)
    unfold nilCheckS at e
    split at e
    · next he => rw [he] at hy; generalize hq : a'.eval y = q at hy; cases hy; unfold execOp; rw [ho]; simp only [hq]; exact .pure _
    · next he => rw [he] at hy; generalize hq : a'.eval y = q at hy; cases hy; unfold execOp; rw [ho]; simp only [hq]; exact .pure _
    · next he => rw [he] at hy; generalize hq : a'.eval y = q at hy; cases hy; unfold execOp; rw [ho]; simp only [hq]; exact .pure _
    · cases e
  · next t y f ho =>
    refine pl (by rw [ho]; rfl) fun M F ρ a' h w hv _ _ ev he => ?_
    exfalso
    have hh : ∀ fs (d : Field), C.P.underlying t = some (.struct fs) → fs[f]? = some d → ∃ i, C.P.info? d.type = some i ∧ 0 < i.size := by
      unfold fieldAddrS at e
      split at e
      · next fs hfs =>
        split at e
        · next fd hfd =>
          split at e
          · next i hi =>
            split at e
            · next hp =>
              intro fs' d h1 h2
              rw [hfs] at h1; cases h1
              rw [Array.getElem?_toList, h2] at hfd; cases hfd
              exact ⟨i, hi, by simpa using hp⟩
            · cases e
          · cases e
        · cases e
      · cases e
    have hev : execOp a'.eval o = (do let x ← Instr.fieldAt t (a'.eval y) f; pure (Next.value x) : Sem Next) := by unfold execOp; rw [ho]
    rw [hev, Sem.events_bind] at he
    have hf := still_fieldAt t (a'.eval y) f hh w #[] ev
    revert he
    cases (Instr.fieldAt t (a'.eval y) f).run C.P w with
    | ok x w' => intro he; exact absurd (hf he) (by simp)
    | halt x w' => intro he; exact absurd (hf he) (by simp)
  · next t y f ho => exact pl (by rw [ho]; rfl) (sl (s := pure undef) fun a => ⟨_, by unfold execOp; rw [ho], still_field t _ f⟩)
  · next t y ix ho => exact pl (by rw [ho]; rfl) (sl (s := pure undef) fun a => ⟨_, by unfold execOp; rw [ho], still_indexAt t _ _⟩)
  · next t y ix ho => exact pl (by rw [ho]; rfl) (sl (s := pure undef) fun a => ⟨_, by unfold execOp; rw [ho], still_index t _ _⟩)
  · next ho => simp [evOK, ho] at hev
  · next ho => exact pl (by rw [ho]; rfl) (opEv_still fun M F ρ a' h w hv _ _ => by unfold execOp; rw [ho]; exact .bind (.pure _) fun _ => .pure _)
  · next ho => simp [evOK, ho] at hev
  · next t l c ho => exact pl (by rw [ho]; rfl) (sl (s := pure undef) fun a => ⟨_, by unfold execOp; rw [ho], still_makeSlice t _ _⟩)
  · next y i ho => exact pl (by rw [ho]; rfl) (sl (s := pure undef) fun a => ⟨_, by unfold execOp; rw [ho], by
      unfold Instr.extract
      repeat (first | exact .pure _ | exact .halt _ | split)⟩)
  · next y t ho =>
    refine pl (by rw [ho]; rfl) (opEv_still fun M F ρ a' h w hv _ _ => ?_)
    have hy := hv y (by rw [ho]; simp [Op.operands, Call.operands])
    have hm : ∀ r, a'.eval y ≠ .map r ∧ a'.eval y ≠ .chan r := by
      intro r
      unfold lenS at e
      split at e
      · next he => rw [he] at hy; cases hy with | d _ _ h => generalize a'.eval y = q at h; cases h; exact ⟨by simp, by simp⟩
      · next he => rw [he] at hy; cases hy with | d _ _ h => generalize a'.eval y = q at h; cases h <;> exact ⟨by simp, by simp⟩
      · next he => rw [he] at hy; generalize a'.eval y = q at hy; cases hy <;> exact ⟨by simp, by simp⟩
      · next he => rw [he] at hy; rw [hy.val]; exact ⟨by simp, by simp⟩
      · next n hu he => simp [evOK, ho, he] at hev
      · cases e
    have ev : execOp a'.eval o = (do let x ← Builtin.len_ #[t] o.type #[a'.eval y]; pure (Next.value x) : Sem Next) := by unfold execOp; rw [ho]; simp only [resolve, invoke, builtin, List.map_toArray, List.map_cons, List.map_nil]; rfl
    rw [ev]
    refine .bind ?_ fun _ => .pure _
    unfold Builtin.len_
    refine .bind (.underlying _) fun d => ?_
    generalize hq : (#[a'.eval y] : Array Value)[0] = q
    have hq' : a'.eval y = q := hq
    rw [hq'] at hm
    cases q with
    | map r => exact absurd rfl (hm r).1
    | chan r => exact absurd rfl (hm r).2
    | _ => cases d <;> (repeat (first | exact .pure _ | exact .halt _ | exact .underlying _ | (refine .bind (.underlying _) fun _ => ?_) | split))
  · next a b t t' ho =>
    split at e
    · next ht => have ht := Nat.eq_of_beq_eq_true ht; subst ht; exact pl (by rw [ho]; rfl) (append_ev ho e hvc)
    · cases e
  · next y z ts ho =>
    refine pl (by rw [ho]; rfl) (opEv_still fun M F ρ a' h w hv _ _ => ?_)
    have e1 := hv y (by rw [ho]; simp [Op.operands, Call.operands])
    have e2 := hv z (by rw [ho]; simp [Op.operands, Call.operands])
    unfold minS at e
    split at e
    · next k a k' b hy hz =>
      rw [hy] at e1; rw [hz] at e2
      have ev : execOp a'.eval o = (do let x ← Builtin.min_ ts o.type #[a'.eval y, a'.eval z]; pure (Next.value x) : Sem Next) := by unfold execOp; rw [ho]; simp only [resolve, invoke, builtin, List.map_toArray, List.map_cons, List.map_nil]; rfl
      rw [ev, e1.val, e2.val]
      simp only [Builtin.min_, List.foldlM_cons, List.foldlM_nil, Builtin.min2]
      exact .bind (.bind (.pure _) fun _ => .pure _) fun _ => .pure _
    · cases e
  · next y z ts ho =>
    refine pl (by rw [ho]; rfl) (opEv_still fun M F ρ a' h w hv _ _ => ?_)
    have e1 := hv y (by rw [ho]; simp [Op.operands, Call.operands])
    have e2 := hv z (by rw [ho]; simp [Op.operands, Call.operands])
    unfold maxS at e
    split at e
    · next k a k' b hy hz =>
      rw [hy] at e1; rw [hz] at e2
      have ev : execOp a'.eval o = (do let x ← Builtin.max_ ts o.type #[a'.eval y, a'.eval z]; pure (Next.value x) : Sem Next) := by unfold execOp; rw [ho]; simp only [resolve, invoke, builtin, List.map_toArray, List.map_cons, List.map_nil]; rfl
      rw [ev, e1.val, e2.val]
      simp only [Builtin.max_, List.foldlM_cons, List.foldlM_nil, Builtin.max2]
      exact .bind (.bind (.pure _) fun _ => .pure _) fun _ => .pure _
    · cases e
  · next ho => simp [evOK, ho] at hev
  · next ho => simp [evOK, ho] at hev
  · next src dst y ho =>
    split at e
    · next x' hx' =>
      exfalso
      unfold strBytesS at hx'
      split at hx'
      · split at hx'
        · split at hx'
          · next s hy => simp [evOK, ho, hy] at hev
          · cases hx'
        · cases hx'
      · cases hx'
    · exact pureS_ev e
  · next t y z t' _ ho =>
    refine pl (by rw [ho]; rfl) ?_
    unfold divS at e
    split at e
    · next hy hz => exact bin_ev ho hy hz
    · cases e
  · next t y z t' _ ho =>
    refine pl (by rw [ho]; rfl) ?_
    unfold divS at e
    split at e
    · next hy hz => exact bin_ev ho hy hz
    · cases e
  · next t y z t' ho =>
    refine pl (by rw [ho]; rfl) ?_
    unfold shiftS at e
    split at e
    · next hy hz => exact bin_ev ho hy hz
    · cases e
  · next t y z t' ho =>
    refine pl (by rw [ho]; rfl) ?_
    unfold shiftS at e
    split at e
    · next hy hz => exact bin_ev ho hy hz
    · cases e
  · exact pureS_ev e
theorem sopC_ok {C : Ctx} {nm : Nat} {o : Oper} {v : Operand → SV} {h : Heap} {x : Out} (e : sopC C nm o v h = some x) (hvc : x.1) :
    OpOK C o nm v x.2.1 (fun u wr => u = x.2.2.1 ∧ wr = x.2.2.2) ∧ (∀ p, p ∈ x.2.1 → h p.1 = some p.2) ∧ keysIn x.2.1 nm x.2.2.2 = true := by
  unfold sopC at e
  cases hev : evOK v o with
  | false => rw [hev] at e; cases e
  | true =>
    rw [hev] at e
    obtain ⟨h1, h2, h3⟩ := sop_ok e hvc
    obtain ⟨g1, g2⟩ := sop_ev e hev hvc
    exact ⟨.of h1 g2 g1, h2, h3⟩
/- comparisons of structs -/
section
variable {P : Program} {R Wr : Nat → Prop}
end
end Go.Proofs.YtpdojmebloekgaaDoor.Nice.Co
namespace Go.Proofs.YtpdojmebloekgaaDoor.Nice.Co
open Go Go.Conc
set_option linter.unusedVariables false
set_option linter.unusedSimpArgs false
section
variable {P : Program} {w : World}
theorem run_enter {a : Act} {o : Oper} {x : Operand} {cargs : Array Operand} {tys : Array TypeId} (ho : o.op = .call { callee := .value x, args := cargs, argTypes := tys }) {f : FuncId} {vs : Array Value} (hq : a.eval x = .func (.func f) #[] vs) {fn : Func} (hf : P.funcs[f]? = some fn) (hfn : fnOK fn = true) :
    (execOp a.eval o).run P w = .ok (.enter f (cargs.map a.eval ++ vs)) w ∧ (execOp a.eval o).events P w #[] = #[] := by
  simp only [fnOK, Bool.and_eq_true, Bool.not_eq_true'] at hfn
  obtain ⟨n1, n2⟩ := hfn
  have n1 : fn.name ≠ "runtime.NumGoroutine" := by simpa using n1
  have n3 : fn.body ≠ none := by intro e; rw [e] at n2; cases n2
  exact ⟨by simp [execOp, ho, resolve, hq, Deferred.ofValue, invoke, callFunc, hf, n1, n3], by simp [execOp, ho, resolve, hq, Deferred.ofValue, invoke, callFunc, hf, n1, n3]⟩
end
open Classical in
noncomputable def frameIn (A : Blks) (Fc : Imm) : Imm := fun b => if A b then Fc b else none
theorem frame_ext {A Rd : Blks} {M F : Imm} {ρ : Names} {h : Heap} {π : List Nat} {w : World} (f : Fit A Rd F M w) (H : HR M (ext A Rd F w) ρ h w) :
    frameOf M (ext A Rd F w) ρ h π w = ext A Rd (frameIn A (frameOf M (ext A Rd F w) ρ h π w)) w := by
  funext b
  by_cases ha : A b
  · rw [ext_in (.inl ha)]; unfold frameIn; rw [if_pos ha]
  · have hF : F b = none := by
      cases e : F b with
      | none => rfl
      | some o => exact absurd (f.fa b (by rw [e]; simp)) ha
    by_cases hr : Rd b
    · rw [ext_in (.inr hr)]
      unfold frameIn
      rw [if_neg ha]
      unfold frameOf
      rw [ext_in (.inr hr), hF, if_neg (by simp), if_neg (fun h => f.rm b hr h.1)]
    · have e : ¬ (A b ∨ Rd b) := fun h => h.elim ha hr
      rw [ext_out e]
      unfold frameOf
      rw [ext_out e]
      cases hb : w.heap[b]? with
      | none => simp
      | some o => simp
theorem call_ok {C : Ctx} {o : Oper} {nm : Nat} {v : Operand → SV} {x : Operand} {cargs : Array Operand} {tys : Array TypeId} (ho : o.op = .call { callee := .value x, args := cargs, argTypes := tys }) {f : FuncId} {caps : List SV} (hx : v x = .fn f caps)
    {fn : Func} (hf : C.P.funcs[f]? = some fn) (hfn : fnOK fn = true) {args : List SV} {hin : List Blk} {post : SV → List (Option Blk) → Prop} (hF : Spec C.P C.G f args hin post) (π : List Nat) (hargs : mapV v cargs.toList ++ caps = renL π args)
    (side : (Nat.beq π.length hin.length && (nodupB π && (hUnder hin.length (hin.map some) && underL hin.length args))) = true) :
    OpOK C o nm v (bsOf π π hin) (fun u wr => ∃ r hout π2, post r hout ∧ π2 = π ++ newNames nm (hout.length - hin.length) ∧ u = ren π2 r ∧ wr = wrOf π2 π2 hout) := by
  simp only [Bool.and_eq_true] at side
  obtain ⟨s1, s2, s3, s4⟩ := side
  have s1 := Nat.eq_of_beq_eq_true s1
  intro K A F M ρ a h w hfit hv hG hH hbs hfr gd b ops i rest k cs hoi hw hb hk
  have hvx := hv x (by rw [ho]; simp [Op.operands, Call.operands])
  rw [hx] at hvx
  obtain ⟨vs, hq, hvs, hvr⟩ := fn_case hvx
  have hrel := mapV_rel (M := M) (ρ := ρ) (a := a) (v := v) (xs := cargs) (fun y hy => hv y (by rw [ho]; simp [Op.operands, Call.operands, hy]))
  have hlenargs : args.length = cargs.size + vs.size := by
    have := congrArg List.length hargs
    rw [List.length_append, mapV_length, renL_length, Array.length_toList] at this
    omega
  refine K.step A _ w rfl fun w₁ h₁ => ?_
  obtain ⟨hrun, hev⟩ := run_enter (P := C.P) (w := w₁) (a := a) ho hq hf hfn
  have hl : listed C.P b.fn a o w₁ = #[] := by unfold listed; rw [hev]; exact seen_none _ _
  refine ⟨_, w₁, #[], (stepG_enter (o := { o with guard := gd }) hoi hw hb hrun).trans (by rw [show listed C.P b.fn a { o with guard := gd } w₁ = listed C.P b.fn a o w₁ from rfl, hl]), Guar.idle w₁, ?_⟩
  rw [more_self]
  have H1 := hr_rely hH hfit h₁
  have f1 := fit_rely hfit h₁
  have hin := call_in H1 s1 s2 hbs s3
  rw [frame_ext f1 H1] at hin
  generalize hF2 : frameIn A (frameOf M (ext A K.Rd F w₁) ρ h π w₁) = F2 at hin
  have f2 : Fit A K.Rd F2 M w₁ := ⟨fun b hb => by
    subst hF2
    unfold frameIn at hb
    by_cases ha : A b
    · exact ha
    · rw [if_neg ha] at hb; exact absurd rfl hb, f1.rm, f1.lt⟩
  have hF2A : ∀ b, A b → F2 b = frameOf M (ext A K.Rd F w₁) ρ h π w₁ b := fun b hb => by subst hF2; unfold frameIn; rw [if_pos hb]
  have hF2N : ∀ b, ¬ A b → F2 b = none := fun b hb => by subst hF2; unfold frameIn; rw [if_neg hb]
  refine hF K A F2 M (back π ρ) (cargs.map a.eval ++ vs) w₁ f2 hG hin (by simp [hlenargs]) ?_ ?_ _ cs ?_
  · intro i y hy
    have hyr : (mapV v cargs.toList ++ caps)[i]? = some (ren π y) := by rw [hargs, renL_get, hy]; rfl
    have hyu : y.under π.length = true := by rw [s1]; exact underL_get _ args s4 i y hy
    by_cases hi : i < cargs.size
    · rw [List.getElem?_append_left (by rw [mapV_length, Array.length_toList]; exact hi)] at hyr
      obtain ⟨u, u1, u2⟩ := hrel.2 i _ hyr
      exact ⟨u, by rw [Array.getElem?_append_left (by simpa using hi)]; exact u1, u2.back y rfl hyu⟩
    · rw [List.getElem?_append_right (by rw [mapV_length, Array.length_toList]; omega), mapV_length, Array.length_toList] at hyr
      obtain ⟨u, u1, u2⟩ := hvr _ _ hyr
      exact ⟨u, by rw [Array.getElem?_append_right (by simp; omega)]; simpa using u1, u2.back y rfl hyu⟩
  · intro n hn
    have : π[n]? = none := by rw [List.getElem?_eq_none_iff, s1]; exact hn
    simp [back, this]
  · intro A' M' ρ' r hout u w' k1 k2 k3 k4 k5 k6 k7 k8 k9
    have hFin : ∀ b, F b ≠ none → A b := hfit.fa
    obtain ⟨ρ2, π2, e1, e2, e3, e4, e5⟩ := call_out (M' := M') (Fs := ext A K.Rd F w₁) (Fe := ext A' K.Rd F w') (Fc := ext A' K.Rd F2 w') (nm := nm) (r := r) (hout := hout) (u := u) H1 s1 s2 hbs s3 hfr
      (fun b o hb => by
        by_cases e : A' b ∨ K.Rd b
        · rw [ext_in e] at hb ⊢
          have ha := hFin b (by rw [hb]; simp)
          rw [hF2A b ha]
          unfold frameOf
          rw [ext_in (.inl ha), hb, if_pos (by simp)]
        · rw [ext_out e] at hb ⊢; exact hb)
      (fun b hb => by
        by_cases e : A' b ∨ K.Rd b
        · rw [ext_in e] at hb ⊢
          cases hFb : F b with
          | none => rfl
          | some o =>
            have ha := hFin b (by rw [hFb]; simp)
            rw [hF2A b ha] at hb
            unfold frameOf at hb
            rw [ext_in (.inl ha), hFb, if_pos (by simp)] at hb
            cases hb
        · rw [ext_out e] at hb ⊢; exact hb)
      (fun b o hb hM hFs => by
        have ha := own_A f1 hM hFs hb
        rw [ext_in (.inl (k1 b ha))]
        rw [ext_in (.inl ha)] at hFs
        exact hFs)
      (fun b o hb hM hFs hp => by
        have ha := own_A f1 hM hFs hb
        rw [ext_in (.inl (k1 b ha)), hF2A b ha]
        unfold frameOf
        rw [if_neg (by rw [hFs]; simp), if_pos ⟨hM, hp⟩]
        exact hb)
      k2 k3 k4 k6 k7
    have := hk A' M' ρ2 (ren π2 r) (wrOf π2 π2 hout) u w' k1 k2 e2 e3 ⟨r, hout, π2, k9, e1, rfl, rfl⟩ e4 ⟨fun b hb => k1 b (hfit.fa b hb), k5.rm, k5.lt⟩ e5 (h₁.same.trans k8)
    rw [Frame.finish_at, hoi]
    exact this
/-- The step that takes one operation. -/
theorem st {C : Ctx} {ops : List Oper} {i : Nat} {o : Oper} {l : List Oper} {σ : St} {acc : Option (List FP)} {K : St → Prop} {vc : Prop} {bs : List (Nat × Blk)} {u : SV} {wr : List (Nat × Option Blk)}
    (hg : o.guard = none) (hd : dstOK C o = true) (e : sopC C (σ.nx + 8 * i) o (opv C σ.t) σ.h = some (vc, bs, u, wr)) (hvc : vc)
    (k : wops C ops (i + 1) l (σ.app o.dst u wr) (acc.map (· ++ [(bs.map (·.1), wr.map (·.1))])) K) : wops C ops i (o :: l) σ acc K := by
  obtain ⟨h1, h2, h3⟩ := sopC_ok e hvc
  unfold wops
  exact .inl ⟨_, _, ⟨hd, .inl ⟨by simp [gOn, hg], bs, u, wr, h1, h2, h3, rfl, rfl⟩⟩, k⟩
/-- A step whose outcome is told by a law of its own. -/
theorem st_ok {C : Ctx} {ops : List Oper} {i : Nat} {o : Oper} {l : List Oper} {σ : St} {acc : Option (List FP)} {K : St → Prop} {bs : List (Nat × Blk)} {u : SV} {wr : List (Nat × Option Blk)}
    (hg : o.guard = none) (hd : dstOK C o = true) (hok : OpOK C o (σ.nx + 8 * i) (opv C σ.t) bs (fun x y => x = u ∧ y = wr)) (hbs : ∀ p, p ∈ bs → σ.h p.1 = some p.2) (hk : keysIn bs (σ.nx + 8 * i) wr = true)
    (k : wops C ops (i + 1) l (σ.app o.dst u wr) (acc.map (· ++ [(bs.map (·.1), wr.map (·.1))])) K) : wops C ops i (o :: l) σ acc K := by
  unfold wops
  exact .inl ⟨_, _, ⟨hd, .inl ⟨by simp [gOn, hg], bs, u, wr, hok, hbs, hk, rfl, rfl⟩⟩, k⟩
/-- An operation behind a guard: both ways. -/
theorem st_guard {C : Ctx} {ops : List Oper} {i : Nat} {o : Oper} {l : List Oper} {σ : St} {acc : Option (List FP)} {K : St → Prop} {j : Nat} {want : Bool} {s : Tmp} {b : Bool}
    (hg : o.guard = some (j, want)) (hs : gslot ops j = some s) (hb : σ.t s = SV.b b)
    (on : b = want → wops C ops i ({ o with guard := none } :: l) ⟨upd σ.t s (SV.b want), σ.h, σ.nx⟩ acc K)
    (off : b = !want → wops C ops (i + 1) l (St.app ⟨upd σ.t s (SV.b !want), σ.h, σ.nx⟩ o.dst (.tup []) []) (acc.map (· ++ [([], [])])) K) (hd : dstOK C o = true) : wops C ops i (o :: l) σ acc K := by
  have same : upd σ.t s (SV.b b) = σ.t := by
    funext k; rw [upd_eq]; split
    · next e => subst e; exact hb.symm
    · rfl
  by_cases h : b = want
  · have := on h
    rw [← h, same] at this
    unfold wops at this ⊢
    have ops' : ∀ {nm : Nat} {v : Operand → SV} {bs RS}, OpOK C { o with guard := none } nm v bs RS → OpOK C o nm v bs RS := fun hok => hok
    rcases this with ⟨fp, σ', ⟨hd', hD⟩, hr⟩ | ⟨h0, hd', hgo, bs, RS, hok, hbs, hn⟩
    · refine .inl ⟨fp, σ', ⟨hd, ?_⟩, hr⟩
      rcases hD with ⟨_, bs, u, wr, hok, rest⟩ | ⟨hgf, _⟩
      · exact .inl ⟨by unfold gOn; rw [hg]; exact ⟨s, hs, by rw [hb, h]⟩, bs, u, wr, ops' hok, rest⟩
      · simp [gOff] at hgf
    · exact .inr ⟨h0, hd, by unfold gOn; rw [hg]; exact ⟨s, hs, by rw [hb, h]⟩, bs, RS, ops' hok, hbs, hn⟩
  · have h' : b = !want := by cases b <;> cases want <;> simp_all
    have := off h'
    rw [← h', same] at this
    unfold wops
    refine .inl ⟨([], []), _, ⟨hd, .inr ⟨?_, rfl, rfl⟩⟩, this⟩
    unfold gOff; rw [hg]; exact ⟨s, hs, .inl (by rw [hb, h'])⟩
end Go.Proofs.YtpdojmebloekgaaDoor.Nice.Co
