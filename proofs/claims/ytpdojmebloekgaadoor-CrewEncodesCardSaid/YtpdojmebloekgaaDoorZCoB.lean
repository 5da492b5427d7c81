/- The calculus over code, for a goroutine beside others: the rules of sequence, choice, loop and block. -/
import Derived.Test.YtpdojmebloekgaaDoorZCoA
namespace Go.Proofs.YtpdojmebloekgaaDoor.Nice.Co
open Go Go.Conc
set_option linter.unusedVariables false

/-- Where it goes on behind a piece of code that is left this way. -/
def Aft {P : Program} (K : Tr P) (A : Blks) (b : Frame) (k : List Item) (cs : List Frame) : Exit → Act → World → Prop
  | .normal, a, w => K.T A (G (b.at a k) cs) w
  | .exit id, a, w => ∃ k', exitTo id k = some k' ∧ K.T A (G (b.at a k') cs) w
  | .ret, a, w => ∀ todo, K.T A (G { b.at a todo with mode := .returning } cs) w
  | _, _, _ => False
theorem Aft.push {P : Program} {K : Tr P} {A : Blks} {b : Frame} {x : Item} {k : List Item} {cs : List Frame} {e : Exit} {a : Act} {w : World} (hx : x.plain = true) (he : e ≠ .normal) (h : Aft K A b k cs e a w) : Aft K A b (x :: k) cs e a w := by
  cases e with
  | normal => exact absurd rfl he
  | exit id => obtain ⟨k', hk, hg⟩ := h; exact ⟨k', by cases x <;> simp_all [exitTo, Item.plain], hg⟩
  | ret => exact h
  | goto l => exact h
  | panic ch => exact h
  | outgrown => exact h

/-- What a state tells of frame and memory of such a goroutine. -/
structure SC (C : Ctx) (A Rd : Blks) (F M : Imm) (pin ρ : Names) (σ : St) (a : Act) (w : World) : Prop where
  fit : Fit A Rd F M w
  sr : SR C M (ext A Rd F w) pin ρ σ a w

/-- What holds of the state at a way out. -/
def Post {P : Program} (C : Ctx) (K : Tr P) (A0 : Blks) (M0 F : Imm) (pin : Names) (w0 : World) (Q : Exit → St → Prop) (b : Frame) (k : List Item) (cs : List Frame) : Prop :=
  ∀ e A M ρ σ a w, (∀ x, A0 x → A x) → M0.le M → SC C A K.Rd F M pin ρ σ a w → Same w0 w → Q e σ → Aft K A b k cs e a w

/-- From every frame and memory that the state describes the code comes, beside others, to an exit and a state that Q names. -/
def W (C : Ctx) (c : Code) (Q : Exit → St → Prop) (σ : St) : Prop :=
  ∀ (K : Tr C.P) A F M pin ρ a w, SC C A K.Rd F M pin ρ σ a w → ∀ b k cs, b.kind ≠ .early → Post C K A M F pin w Q b k cs → K.T A (G (b.at a (.code c :: k)) cs) w

section
variable {C : Ctx} {Q : Exit → St → Prop} {σ : St}
theorem W_mono {c : Code} {Q' : Exit → St → Prop} (h : W C c Q σ) (hq : ∀ e σ', Q e σ' → Q' e σ') : W C c Q' σ :=
  fun K A F M pin ρ a w hs b k cs hb hp => h K A F M pin ρ a w hs b k cs hb fun e A' M' ρ' σ' a' w' h1 h2 h3 h4 h5 => hp e A' M' ρ' σ' a' w' h1 h2 h3 h4 (hq _ _ h5)

theorem Post.now {C : Ctx} {P : Program} {K : Tr P} {A : Blks} {M F : Imm} {pin ρ : Names} {w : World} {Q : Exit → St → Prop} {b : Frame} {k : List Item} {cs : List Frame} {σ : St} {a : Act} (hp : Post C K A M F pin w Q b k cs) (hs : SC C A K.Rd F M pin ρ σ a w) {e : Exit} (h : Q e σ) : Aft K A b k cs e a w :=
  hp e A M ρ σ a w (fun _ h => h) (Imm.le_refl _) hs (.refl _) h
/-- What holds at the ways out, from a state further on. -/
theorem Post.on {C : Ctx} {P : Program} {K : Tr P} {A A' : Blks} {M M' F : Imm} {pin : Names} {w w' : World} {Q : Exit → St → Prop} {b : Frame} {k : List Item} {cs : List Frame} (hp : Post C K A M F pin w Q b k cs) (hA : ∀ x, A x → A' x) (hM : M.le M') (hw : Same w w') : Post C K A' M' F pin w' Q b k cs :=
  fun e A2 M2 ρ2 σ2 a2 w2 h1 h2 h3 h4 h5 => hp e A2 M2 ρ2 σ2 a2 w2 (fun x hx => h1 x (hA x hx)) (Imm.le_trans hM h2) h3 (hw.trans h4) h5

theorem W_skip (h : Q .normal σ) : W C .skip Q σ := fun K A F M pin ρ a w hs b k cs hb hp => K.idle rfl (fun _ => stepG_skip) (hp.now hs h)
theorem W_label {l : Nat} (h : Q .normal σ) : W C (.label l) Q σ := fun K A F M pin ρ a w hs b k cs hb hp => K.idle rfl (fun _ => stepG_label) (hp.now hs h)
theorem W_exit {id : Nat} (h : Q (.exit id) σ) : W C (.exit id) Q σ := fun K A F M pin ρ a w hs b k cs hb hp => by
  obtain ⟨k', hk, hg⟩ := hp.now hs h
  exact K.idle rfl (fun _ => stepG_exit hk) hg
theorem W_ret (h : Q .ret σ) : W C .ret Q σ := fun K A F M pin ρ a w hs b k cs hb hp => K.idle rfl (fun _ => stepG_ret') (hp.now hs h _)

theorem W_seq {x y : Code} (h : W C x (thenQ (W C y Q) Q) σ) : W C (.seq x y) Q σ := by
  intro K A F M pin ρ a w hs b k cs hb hp
  refine K.idle rfl (fun _ => stepG_seq) (h K A F M pin ρ a w hs b (.code y :: k) cs hb ?_)
  intro e A' M' ρ' σ' a' w' h1 h2 h3 h4 h5
  cases e with
  | normal => exact h5 K A' F M' pin ρ' a' w' h3 b k cs hb (hp.on h1 h2 h4)
  | exit id => exact Aft.push (x := .code y) rfl (by simp) (hp (.exit id) A' M' ρ' σ' a' w' h1 h2 h3 h4 h5)
  | goto l => exact hp (.goto l) A' M' ρ' σ' a' w' h1 h2 h3 h4 h5
  | ret => exact hp .ret A' M' ρ' σ' a' w' h1 h2 h3 h4 h5
  | panic ch => exact hp (.panic ch) A' M' ρ' σ' a' w' h1 h2 h3 h4 h5
  | outgrown => exact hp .outgrown A' M' ρ' σ' a' w' h1 h2 h3 h4 h5

theorem W_cond {c : Operand} {x y : Code} {t : Bool} (hc : opv C σ.t c = SV.b t) (ht : t = true → W C x Q σ) (hf : t = false → W C y Q σ) : W C (.cond c x y) Q σ := by
  intro K A F M pin ρ a w hs b k cs hb hp
  have hv := opv_rel hs.sr.toSR0 c
  rw [hc] at hv
  refine K.idle rfl (fun _ => stepG_cond hv.bool) ?_
  cases t with
  | true => exact ht rfl K A F M pin ρ a w hs b k cs hb hp
  | false => exact hf rfl K A F M pin ρ a w hs b k cs hb hp

theorem W_block {id : Nat} {c : Code} (h : W C c (inBlockQ id Q) σ) : W C (.block id c) Q σ := by
  intro K A F M pin ρ a w hs b k cs hb hp
  refine K.idle rfl (fun _ => stepG_block) (h K A F M pin ρ a w hs b (.inBlock id :: k) cs hb ?_)
  intro e A' M' ρ' σ' a' w' h1 h2 h3 h4 h5
  cases e with
  | normal => exact K.idle rfl (fun _ => stepG_inBlock) (hp .normal A' M' ρ' σ' a' w' h1 h2 h3 h4 h5)
  | exit id' =>
    simp only [inBlockQ] at h5
    by_cases hid : id' = id
    · rw [if_pos hid] at h5
      exact ⟨k, by simp [exitTo, hid], hp .normal A' M' ρ' σ' a' w' h1 h2 h3 h4 h5⟩
    · rw [if_neg hid] at h5
      obtain ⟨k', hk, hg⟩ := hp (.exit id') A' M' ρ' σ' a' w' h1 h2 h3 h4 h5
      have : (id == id') = false := by simp; exact fun h => hid h.symm
      exact ⟨k', by simp [exitTo, this, hk], hg⟩
  | goto l => exact hp (.goto l) A' M' ρ' σ' a' w' h1 h2 h3 h4 h5
  | ret => exact hp .ret A' M' ρ' σ' a' w' h1 h2 h3 h4 h5
  | panic ch => exact hp (.panic ch) A' M' ρ' σ' a' w' h1 h2 h3 h4 h5
  | outgrown => exact hp .outgrown A' M' ρ' σ' a' w' h1 h2 h3 h4 h5

/-- A loop: 'I' holds of the state at each round's head. -/
theorem W_loop0 {c : Code} (I : Nat → St → Prop) (n : Nat) (h0 : I n σ)
    (round : ∀ n σ, I n σ → W C c (thenQ (fun σ' => ∃ k, k < n ∧ I k σ') Q) σ) : W C (.loop c) Q σ := by
  intro K A F M pin ρ a w hs b k cs hb hp
  have key : ∀ n σ A M ρ a w, I n σ → SC C A K.Rd F M pin ρ σ a w → Post C K A M F pin w Q b k cs → K.T A (G (b.at a (.code c :: .inLoop c :: k)) cs) w := by
    intro n
    induction n using Nat.strongRecOn with
    | _ n ih =>
      intro σ A M ρ a w hI hs hp
      refine round n σ hI K A F M pin ρ a w hs b (.inLoop c :: k) cs hb ?_
      intro e A' M' ρ' σ' a' w' h1 h2 h3 h4 h5
      cases e with
      | normal =>
        obtain ⟨j, hj, hI'⟩ := h5
        exact K.idle rfl (fun _ => stepG_inLoop) (ih j hj σ' A' M' ρ' a' w' hI' h3 (hp.on h1 h2 h4))
      | exit id => exact Aft.push (x := .inLoop c) rfl (by simp) (hp (.exit id) A' M' ρ' σ' a' w' h1 h2 h3 h4 h5)
      | goto l => exact hp (.goto l) A' M' ρ' σ' a' w' h1 h2 h3 h4 h5
      | ret => exact hp .ret A' M' ρ' σ' a' w' h1 h2 h3 h4 h5
      | panic ch => exact hp (.panic ch) A' M' ρ' σ' a' w' h1 h2 h3 h4 h5
      | outgrown => exact hp .outgrown A' M' ρ' σ' a' w' h1 h2 h3 h4 h5
  exact K.idle rfl (fun _ => stepG_loop) (key n σ A M ρ a w h0 hs hp)

theorem SC.sub {A Rd : Blks} {F M : Imm} {pin ρ : Names} {a : Act} {w : World} {π : List Nat} {tl : List (Nat × SV)} {hl : List (Option Blk)} (hs : SC C A Rd F M pin ρ σ a w) (hsub : Sub C π σ tl hl) : SC C A Rd F M pin (back π ρ) (stOf tl hl) a w :=
  ⟨hs.fit, hsub.rel hs.sr.toSR0⟩

theorem W_sub {c : Code} (π : List Nat) (tl : List (Nat × SV)) (hl : List (Option Blk)) (hsub : Sub C π σ tl hl) (h : W C c Q (stOf tl hl)) : W C c Q σ :=
  fun K A F M pin ρ a w hs b k cs hb hp => h K A F M pin _ a w (hs.sub hsub) b k cs hb hp

/-- The state told otherwise. -/
theorem W_turn {c : Code} {σ' : St} (ht : ∀ M F pin ρ a w, SR C M F pin ρ σ a w → ∃ M' ρ', M.le M' ∧ SR C M' F pin ρ' σ' a w) (h : W C c Q σ') : W C c Q σ := by
  intro K A F M pin ρ a w hs b k cs hb hp
  obtain ⟨M', ρ', h1, h2⟩ := ht M _ pin ρ a w hs.sr
  have hf : Fit A K.Rd F M' w := ⟨hs.fit.fa, fun b hb => by
    obtain ⟨o, ho⟩ := Option.ne_none_iff_exists'.1 (hs.fit.rm b hb)
    rw [h1 b o ho]; simp, hs.fit.lt⟩
  exact h K A F M' pin ρ' a w ⟨hf, h2⟩ b k cs hb (hp.on (fun _ h => h) h1 (.refl _))

/-- A loop by lists that hang on a ghost. -/
theorem W_loop {c : Code} {α : Type} (tl : α → List (Nat × SV)) (hl : α → List (Option Blk)) (I : α → Prop) (μ : α → Nat) (x0 : α) (π : List Nat)
    (h0 : I x0) (hsub : Sub C π σ (tl x0) (hl x0))
    (round : ∀ x, I x → W C c (thenQ (fun σ' => ∃ x' π, I x' ∧ μ x' < μ x ∧ Sub C π σ' (tl x') (hl x')) Q) (stOf (tl x) (hl x))) : W C (.loop c) Q σ := by
  refine W_loop0 (fun n σ' => ∃ x π, I x ∧ μ x = n ∧ Sub C π σ' (tl x) (hl x)) (μ x0) ⟨x0, π, h0, rfl, hsub⟩ ?_
  rintro n σ' ⟨x, π', hx, rfl, hsub'⟩
  refine W_sub π' _ _ hsub' (W_mono (round x hx) ?_)
  intro e σ'' hq
  cases e with
  | normal =>
    obtain ⟨x', p, h1, h2, h3⟩ := hq
    exact ⟨_, h2, x', p, h1, rfl, h3⟩
  | _ => exact hq

/-- Ways meet: behind x the state is one that the lists tell. -/
theorem W_cut {x y : Code} {α : Type} (tl : α → List (Nat × SV)) (hl : α → List (Option Blk)) (I : α → Prop)
    (hx : W C x (thenQ (fun σ' => ∃ z π, I z ∧ Sub C π σ' (tl z) (hl z)) Q) σ) (hy : ∀ z, I z → W C y Q (stOf (tl z) (hl z))) : W C (.seq x y) Q σ := by
  refine W_seq (W_mono hx ?_)
  intro e σ' hq
  cases e with
  | normal =>
    obtain ⟨z, π, h1, h2⟩ := hq
    exact W_sub π _ _ h2 (hy z h1)
  | _ => exact hq
end
end Go.Proofs.YtpdojmebloekgaaDoor.Nice.Co
