/- The calculus over code: states by slot and by name, what a piece of code does to them, the rules of sequence, choice, loop and block. -/
import Derived.Test.YtpdojmebloekgaaDoorNiceA
namespace Go.Proofs.YtpdojmebloekgaaDoor.Nice
open Go
set_option linter.unusedVariables false

/-- What a walk goes over: the program, the number of slots, the number of names that came in, what the package's variables are. -/
structure Ctx where
  P : Program
  sz : Nat
  m : Nat
  G : Nat → SV

structure St where
  t : Nat → SV
  h : Heap
  nx : Nat

def Imm0 (C : Ctx) (M : Imm) : Prop := ∀ g ρ, VR M ρ (C.G g) (.pointer (some ⟨g, 0, none⟩))

structure SR0 (C : Ctx) (M F : Imm) (pin ρ : Names) (σ : St) (a : Act) (w : World) : Prop where
  tm : ∀ k, VR M ρ (σ.t k) (a.tmps.getD k undef)
  sz : a.tmps.size = C.sz
  df : a.defers = []
  hr : HR M F ρ σ.h w
  pn : pin.le ρ
  pm : ∀ n x, pin n = some x → n < C.m
  gl : ∀ g ρ, VR M ρ (C.G g) (.pointer (some ⟨g, 0, none⟩))

structure SR (C : Ctx) (M F : Imm) (pin ρ : Names) (σ : St) (a : Act) (w : World) : Prop extends SR0 C M F pin ρ σ a w where
  fr : ∀ n, σ.nx ≤ n → ρ n = none

/-- From every world and frame that the state describes the code comes to an exit and a state that Q names. -/
def W (C : Ctx) (c : Code) (Q : Exit → St → Prop) (σ : St) : Prop :=
  ∀ M F pin ρ a w, SR C M F pin ρ σ a w → c.wp C.P (fun e a' w' => ∃ M' ρ' σ', M.le M' ∧ SR C M' F pin ρ' σ' a' w' ∧ Same w w' ∧ Q e σ') a w

section
variable {C : Ctx} {Q : Exit → St → Prop} {σ : St}

theorem W_mono {c : Code} {Q' : Exit → St → Prop} (h : W C c Q σ) (hq : ∀ e σ', Q e σ' → Q' e σ') : W C c Q' σ :=
  fun M F pin ρ a w hs => Code.wp_mono (fun e a' w' ⟨M', ρ', σ', h1, h2, h3, h4⟩ => ⟨M', ρ', σ', h1, h2, h3, hq _ _ h4⟩) (h M F pin ρ a w hs)

theorem W_skip (h : Q .normal σ) : W C .skip Q σ := fun M F pin ρ a w hs => wp_skip ⟨M, ρ, σ, Imm.le_refl _, hs, .refl _, h⟩
theorem W_label {l : Nat} (h : Q .normal σ) : W C (.label l) Q σ := fun M F pin ρ a w hs => wp_label ⟨M, ρ, σ, Imm.le_refl _, hs, .refl _, h⟩
theorem W_exit {id : Nat} (h : Q (.exit id) σ) : W C (.exit id) Q σ := fun M F pin ρ a w hs => wp_exit ⟨M, ρ, σ, Imm.le_refl _, hs, .refl _, h⟩
theorem W_ret (h : Q .ret σ) : W C .ret Q σ := fun M F pin ρ a w hs => wp_ret ⟨M, ρ, σ, Imm.le_refl _, hs, .refl _, h⟩

def thenQ (K : St → Prop) (Q : Exit → St → Prop) : Exit → St → Prop
  | .normal, σ => K σ
  | e, σ => Q e σ

theorem W_seq {x y : Code} (h : W C x (thenQ (W C y Q) Q) σ) : W C (.seq x y) Q σ := by
  intro M F pin ρ a w hs
  refine wp_seq (Code.wp_mono ?_ (h M F pin ρ a w hs))
  rintro e a' w' ⟨M', ρ', σ', h1, h2, h3, h4⟩
  cases e with
  | normal =>
    refine Code.wp_mono ?_ (h4 M' F pin ρ' a' w' h2)
    rintro e a'' w'' ⟨M'', ρ'', σ'', k1, k2, k3, k4⟩
    exact ⟨M'', ρ'', σ'', Imm.le_trans h1 k1, k2, h3.trans k3, k4⟩
  | _ => exact ⟨M', ρ', σ', h1, h2, h3, h4⟩

def opv (C : Ctx) (t : Nat → SV) : Operand → SV
  | .tmp k => t k
  | .const (.slice none 0 0) => .d .nils
  | .const (.agg _) => .any
  | .const (.tuple _) => .any
  | .const v => .d (.val v)
  | .global g => C.G g
  | .func f => .fn f []

theorem opv_rel {M F : Imm} {pin ρ : Names} {a : Act} {w : World} (hs : SR0 C M F pin ρ σ a w) (x : Operand) : VR M ρ (opv C σ.t x) (a.eval x) := by
  cases x with
  | tmp k => exact hs.tm k
  | const v =>
    cases v with
    | slice ad l c =>
      cases ad with
      | none => cases l with
        | zero => cases c with
          | zero => exact .d _ _ (.nils _)
          | succ c => exact .d _ _ (.val _ rfl)
        | succ l => exact .d _ _ (.val _ rfl)
      | some ad => exact .d _ _ (.val _ rfl)
    | agg _ => exact .any _
    | tuple _ => exact .any _
    | _ => exact .d _ _ (.val _ rfl)
  | global g => exact hs.gl g ρ
  | func f => exact .fn f [] #[] (fun _ => undef) rfl (fun i hi => by simp at hi) (fun i x hx => by simp at hx)

theorem VR.bool {M : Imm} {ρ : Names} {t : Bool} {v : Value} (h : VR M ρ (SV.b t) v) : v = .bool t := by
  cases h with | d _ _ h => cases h; rfl
theorem VR.val {M : Imm} {ρ : Names} {u v : Value} (h : VR M ρ (.d (.val u)) v) : v = u := by
  cases h with | d _ _ h => cases h; rfl

theorem W_cond {c : Operand} {x y : Code} {t : Bool} (hc : opv C σ.t c = SV.b t) (ht : t = true → W C x Q σ) (hf : t = false → W C y Q σ) : W C (.cond c x y) Q σ := by
  intro M F pin ρ a w hs
  have hv := opv_rel hs.toSR0 c
  rw [hc] at hv
  refine wp_cond_split hv.bool (fun e => ht e M F pin ρ a w hs) (fun e => hf e M F pin ρ a w hs)

def inBlockQ (id : Nat) (Q : Exit → St → Prop) : Exit → St → Prop
  | .exit id', σ => if id' = id then Q .normal σ else Q (.exit id') σ
  | e, σ => Q e σ

theorem W_block {id : Nat} {c : Code} (h : W C c (inBlockQ id Q) σ) : W C (.block id c) Q σ := by
  intro M F pin ρ a w hs
  refine wp_block (Code.wp_mono ?_ (h M F pin ρ a w hs))
  rintro e a' w' ⟨M', ρ', σ', h1, h2, h3, h4⟩
  cases e with
  | exit id' =>
    simp only [inBlockQ, Go.Exit.inBlock] at h4 ⊢
    split
    · next e => rw [if_pos e] at h4; exact ⟨M', ρ', σ', h1, h2, h3, h4⟩
    · next e => rw [if_neg e] at h4; exact ⟨M', ρ', σ', h1, h2, h3, h4⟩
  | _ => exact ⟨M', ρ', σ', h1, h2, h3, h4⟩

/-- wp_loop with a measure that is not a function of frame and world. -/
theorem wp_loop_rel {P : Program} {c : Code} {Q : Exit → Act → World → Prop} (I : Nat → Act → World → Prop) {n : Nat} {a : Act} {w : World} (h₀ : I n a w)
    (round : ∀ n a w, I n a w → c.wp P (Go.Exit.then (fun a' w' => ∃ k, k < n ∧ I k a' w') Q) a w) : (Code.loop c).wp P Q a w := by
  intro b k cs
  have key : ∀ n a w, I n a w → ∃ e a' w', Q e a' w' ∧ Arrives P (lone (b.at a (.code c :: .inLoop c :: k)) cs w) b k cs e a' w' := by
    intro n
    induction n using Nat.strongRecOn with
    | _ n ih =>
      intro a w hI
      obtain ⟨e, a₁, w₁, hq, harr⟩ := round n a w hI b (.inLoop c :: k) cs
      cases e with
      | normal =>
        obtain ⟨j, hlt, hI₁⟩ := hq
        obtain ⟨e₂, a₂, w₂, hq₂, harr₂⟩ := ih j hlt a₁ w₁ hI₁
        exact ⟨e₂, a₂, w₂, hq₂, .of_steps (Steps.trans harr (.one step_inLoop)) harr₂⟩
      | exit id => exact ⟨_, a₁, w₁, hq, .pass (x := .inLoop c) rfl (fun _ _ => .inl (by simp)) harr⟩
      | goto l => exact ⟨_, a₁, w₁, hq, .pass (x := .inLoop c) rfl (fun _ _ => .inl (by simp)) harr⟩
      | ret => exact ⟨_, a₁, w₁, hq, .pass (x := .inLoop c) rfl (fun _ _ => .inl (by simp)) harr⟩
      | panic ch => exact ⟨_, a₁, w₁, hq, .pass (x := .inLoop c) rfl (fun _ _ => .inl (by simp)) harr⟩
      | outgrown => exact ⟨_, a₁, w₁, hq, .pass (x := .inLoop c) rfl (fun _ _ => .inl (by simp)) harr⟩
  obtain ⟨e, a', w', hq, harr⟩ := key n a w h₀
  exact ⟨e, a', w', hq, .of_steps (.one step_loop) harr⟩

/-- A loop: 'I' holds of the state at each round's head. -/
theorem W_loop0 {c : Code} (I : Nat → St → Prop) (n : Nat) (h0 : I n σ)
    (round : ∀ n σ, I n σ → W C c (thenQ (fun σ' => ∃ k, k < n ∧ I k σ') Q) σ) : W C (.loop c) Q σ := by
  intro M F pin ρ a w hs
  refine wp_loop_rel (fun n a' w' => ∃ M' ρ' σ', M.le M' ∧ SR C M' F pin ρ' σ' a' w' ∧ Same w w' ∧ I n σ') (n := n) ⟨M, ρ, σ, Imm.le_refl _, hs, .refl _, h0⟩ ?_
  rintro n a1 w1 ⟨M1, ρ1, σ1, h1, h2, h3, h4⟩
  refine Code.wp_mono ?_ (round n σ1 h4 M1 F pin ρ1 a1 w1 h2)
  rintro e a' w' ⟨M', ρ', σ', k1, k2, k3, k4⟩
  cases e with
  | normal =>
    obtain ⟨j, hj, hI⟩ := k4
    exact ⟨j, hj, M', ρ', σ', Imm.le_trans h1 k1, k2, h3.trans k3, hI⟩
  | _ => exact ⟨M', ρ', σ', Imm.le_trans h1 k1, k2, h3.trans k3, k4⟩
end

/- Names turned: a state told by lists, seen through a renaming. -/
mutual
def ren (π : List Nat) : SV → SV
  | .ptr n i c => .ptr (π.getD n 0) i c
  | .sl n o l => .sl (π.getD n 0) o l
  | .cs n c l => .cs (π.getD n 0) c l
  | .op n b => .op (π.getD n 0) b
  | .map n => .map (π.getD n 0)
  | .fn f cs => .fn f (renL π cs)
  | .agg xs => .agg (renL π xs)
  | .tup xs => .tup (renL π xs)
  | .iface t x => .iface t (ren π x)
  | .any => .any
  | .d x => .d x
  | .vp k l f i c => .vp k l f i c
def renL (π : List Nat) : List SV → List SV
  | [] => []
  | x :: r => ren π x :: renL π r
end
def renO (π : List Nat) : List (Nat × SV) → List (Nat × SV)
  | [] => []
  | (j, x) :: r => (j, ren π x) :: renO π r
def renB (π : List Nat) : Blk → Blk
  | .cells ty k xs => .cells ty k (renL π xs)
  | .fam S es => .fam S ⟨es.es, renO π es.op, es.ly⟩
  | .iter m since seen => .iter (ren π m) since seen
  | b => b
theorem renO_mem {π : List Nat} : ∀ {op : List (Nat × SV)} {p : Nat × SV}, p ∈ renO π op → ∃ q, q ∈ op ∧ p = (q.1, ren π q.2)
  | [], p, h => by cases h
  | (j, x) :: r, p, h => by
    rcases List.mem_cons.1 h with rfl | h
    · exact ⟨_, List.mem_cons_self .., rfl⟩
    · obtain ⟨q, hq, e⟩ := renO_mem h; exact ⟨q, List.mem_cons_of_mem _ hq, e⟩
theorem renO_of {π : List Nat} : ∀ {op : List (Nat × SV)} {q : Nat × SV}, q ∈ op → (q.1, ren π q.2) ∈ renO π op
  | [], q, h => by cases h
  | (j, x) :: r, q, h => by
    rcases List.mem_cons.1 h with rfl | h
    · exact List.mem_cons_self ..
    · exact List.mem_cons_of_mem _ (renO_of h)
theorem renB_fam {π : List Nat} {b : Blk} {S : List Nat} {es : Fam} (h : renB π b = .fam S es) : ∃ es', b = .fam S es' ∧ es = ⟨es'.es, renO π es'.op, es'.ly⟩ := by
  cases b with
  | fam S' es' => simp only [renB, Blk.fam.injEq] at h; obtain ⟨rfl, rfl⟩ := h; exact ⟨es', rfl, rfl⟩
  | _ => simp [renB] at h
theorem at_ren {π : List Nat} {es : Fam} {j : Nat} {k : Value} {s : SV} {bl : List InB} : (⟨es.es, renO π es.op, es.ly⟩ : Fam).at j k s bl ↔ es.at j k s bl := by
  constructor
  · rintro ⟨h1, h2⟩; exact ⟨h1, fun p hp => h2 (p.1, Nice.ren π p.2) (renO_of hp)⟩
  · rintro ⟨h1, h2⟩
    refine ⟨h1, fun p hp => ?_⟩
    obtain ⟨q, hq, rfl⟩ := renO_mem hp
    exact h2 q hq
theorem FR.ren {M : Imm} {w : World} {b : Nat} {S : List Nat} {es : Fam} {π : List Nat} : FR M w b S ⟨es.es, renO π es.op, es.ly⟩ ↔ FR M w b S es :=
  ⟨fun h => h.shuts rfl fun j k s bl hj => ⟨k, at_ren.2 hj⟩, fun h => h.shuts rfl fun j k s bl hj => ⟨k, at_ren.1 hj⟩⟩

theorem renL_length (π : List Nat) : ∀ xs, (renL π xs).length = xs.length
  | [] => rfl
  | x :: r => by simp [renL, renL_length π r]
theorem renL_get (π : List Nat) : ∀ (xs : List SV) (i : Nat), (renL π xs)[i]? = (xs[i]?).map (ren π)
  | [], i => by simp [renL]
  | x :: r, 0 => by simp [renL]
  | x :: r, i + 1 => by simp [renL, renL_get π r i]

mutual
/-- Names of a value are among the first n. -/
def SV.under (n : Nat) : SV → Bool
  | .ptr m _ _ | .sl m _ _ | .cs m _ _ | .op m _ | .map m => Nat.blt m n
  | .fn _ cs => underL n cs
  | .agg xs | .tup xs => underL n xs
  | .iface _ x => x.under n
  | _ => true
def underL (n : Nat) : List SV → Bool
  | [] => true
  | x :: r => x.under n && underL n r
end
def Blk.under (n : Nat) : Blk → Bool
  | .cells _ _ xs => underL n xs
  | .fam _ es => es.op.all fun e => e.2.under n
  | .iter m _ _ => m.under n
  | _ => true
theorem underL_get (n : Nat) : ∀ (xs : List SV), underL n xs = true → ∀ (i : Nat) (x : SV), xs[i]? = some x → x.under n = true
  | [], _, i, x, h => by simp at h
  | y :: r, hu, 0, x, h => by simp [underL] at hu h; subst h; exact hu.1
  | y :: r, hu, i + 1, x, h => by simp [underL] at hu h; exact underL_get n r hu.2 i x h

/-- The names that π gives, seen from its places. -/
def back (π : List Nat) (ρ : Names) : Names := fun i => (π[i]?).bind ρ

theorem back_of {π : List Nat} {ρ : Names} {n : Nat} {x : Own} (hn : n < π.length) (h : ρ (π.getD n 0) = some x) : back π ρ n = some x := by
  simp only [back, List.getElem?_eq_getElem hn, Option.bind_some]
  simpa [List.getD, List.getElem?_eq_getElem hn] using h

theorem VR.back {M : Imm} {ρ : Names} {π : List Nat} {y : SV} {v : Value} (h : VR M ρ y v) : ∀ x, y = ren π x → x.under π.length = true → VR M (Nice.back π ρ) x v := by
  induction h with
  | any v => intro x hx hu; cases x <;> simp [ren] at hx; exact .any v
  | d z v h => intro x hx hu; cases x <;> simp [ren] at hx; subst hx; exact .d _ _ h
  | vp k len f i c b o cur T fz g hb hg hr =>
    intro x hx hu; cases x <;> simp [ren] at hx
    obtain ⟨rfl, rfl, rfl, rfl, rfl⟩ := hx
    exact .vp _ _ _ _ _ b o cur T fz g hb hg hr
  | ptr n i c z h =>
    intro x hx hu; cases x <;> simp [ren] at hx
    obtain ⟨rfl, rfl, rfl⟩ := hx
    exact .ptr _ _ _ z (back_of (by simpa [SV.under] using hu) h)
  | sl n o len z h hl hR h0 =>
    intro x hx hu; cases x <;> simp [ren] at hx
    obtain ⟨rfl, rfl, rfl⟩ := hx
    exact .sl _ _ _ z (back_of (by simpa [SV.under] using hu) h) hl hR h0
  | sl0 n o z h hR a =>
    intro x hx hu; cases x <;> simp [ren] at hx
    obtain ⟨rfl, rfl, rfl⟩ := hx
    exact .sl0 _ _ z (back_of (by simpa [SV.under] using hu) h) hR a
  | cs n c len z cap h hc =>
    intro x hx hu; cases x <;> simp [ren] at hx
    obtain ⟨rfl, rfl, rfl⟩ := hx
    exact .cs _ _ _ z cap (back_of (by simpa [SV.under] using hu) h) hc
  | opY n z h =>
    intro x hx hu; cases x <;> simp [ren] at hx
    obtain ⟨rfl, rfl⟩ := hx
    exact .opY _ z (back_of (by simpa [SV.under] using hu) h)
  | opN n =>
    intro x hx hu; cases x <;> simp [ren] at hx
    obtain ⟨rfl, rfl⟩ := hx
    exact .opN _
  | map n z h =>
    intro x hx hu; cases x <;> simp [ren] at hx
    subst hx
    exact .map _ z (back_of (by simpa [SV.under] using hu) h)
  | fn f caps vs g hs hg hr ih =>
    intro x hx hu; cases x with
    | fn f' cs =>
      simp [ren] at hx; obtain ⟨rfl, rfl⟩ := hx
      rw [renL_length] at hs hg
      refine .fn _ cs vs g hs hg fun i y hy => ih i (ren π y) (by rw [renL_get, hy]; rfl) y rfl ?_
      exact underL_get _ cs (by simpa [SV.under] using hu) i y hy
    | _ => simp [ren] at hx
  | agg xs vs g hs hg hr ih =>
    intro x hx hu; cases x with
    | agg cs =>
      simp [ren] at hx; subst hx
      rw [renL_length] at hs hg
      refine .agg cs vs g hs hg fun i y hy => ih i (ren π y) (by rw [renL_get, hy]; rfl) y rfl ?_
      exact underL_get _ cs (by simpa [SV.under] using hu) i y hy
    | _ => simp [ren] at hx
  | tup xs vs g hs hg hr ih =>
    intro x hx hu; cases x with
    | tup cs =>
      simp [ren] at hx; subst hx
      rw [renL_length] at hs hg
      refine .tup cs vs g hs hg fun i y hy => ih i (ren π y) (by rw [renL_get, hy]; rfl) y rfl ?_
      exact underL_get _ cs (by simpa [SV.under] using hu) i y hy
    | _ => simp [ren] at hx
  | iface t z v h ih =>
    intro x hx hu; cases x <;> simp [ren] at hx
    obtain ⟨rfl, rfl⟩ := hx
    exact .iface _ _ v (ih _ rfl (by simpa [SV.under] using hu))

theorem BR.back {M : Imm} {ρ : Names} {π : List Nat} {z : Own} {b : Blk} {o : Obj} (h : BR M ρ z (renB π b) o) (hu : b.under π.length = true) : BR M (Nice.back π ρ) z b o := by
  cases b with
  | cells ty k xs => cases o with
    | cells cur T fz =>
      obtain ⟨h1, h2, h3, h4, h5, h6⟩ := h
      rw [renL_length] at h5
      refine ⟨h1, h2, h3, h4, h5, fun j s hs => ?_⟩
      obtain ⟨v, hv, hr⟩ := h6 j (ren π s) (by rw [renL_get, hs]; rfl)
      exact ⟨v, hv, hr.back s rfl (underL_get _ xs hu j s hs)⟩
    | _ => exact h.elim
  | rows ty k len f => cases o <;> exact h
  | map es => cases o <;> exact h
  | fam S es => cases o with
    | map ents cl =>
      obtain ⟨h0, h1, h2, h3⟩ := h
      refine ⟨h0, h1, h2, fun p hp => ?_⟩
      obtain ⟨y, hy, hr⟩ := h3 _ (renO_of hp)
      exact ⟨y, hy, hr.back p.2 rfl ((List.all_eq_true.1 hu) p hp)⟩
    | cells cur T fz =>
      refine ⟨h.1, fun p hp => ?_⟩
      obtain ⟨y, hy, hr⟩ := h.2 _ (renO_of hp)
      exact ⟨y, hy, hr.back p.2 rfl ((List.all_eq_true.1 hu) p hp)⟩
    | _ => exact h.elim
  | iter m since seen => cases o with
    | mapIter mp s' seen' cl => exact ⟨h.1.back m rfl hu, h.2⟩
    | _ => exact h.elim

/-- Lists as states. -/
def tOf : List (Nat × SV) → Nat → SV
  | [], _ => .any
  | (k, v) :: r, n => bif Nat.beq n k then v else tOf r n
def hOf (l : List (Option Blk)) : Heap := fun n => (l.getD n none)
def stOf (tl : List (Nat × SV)) (hl : List (Option Blk)) : St := ⟨tOf tl, hOf hl, hl.length⟩

/-- The state σ is (at least) what the lists tell, its names read through π. -/
def tSub (π : List Nat) (t : Nat → SV) : List (Nat × SV) → Prop
  | [] => True
  | (k, v) :: r => t k = ren π v ∧ tSub π t r
def hSub (π all : List Nat) (h : Heap) : List (Option Blk) → Prop
  | [] => True
  | none :: r => hSub π.tail all h r
  | some b :: r => h (π.headD 0) = some (renB all b) ∧ hSub π.tail all h r
def tUnder (n : Nat) : List (Nat × SV) → Bool
  | [] => true
  | (_, v) :: r => v.under n && tUnder n r
def hUnder (n : Nat) : List (Option Blk) → Bool
  | [] => true
  | none :: r => hUnder n r
  | some b :: r => b.under n && hUnder n r
def pinOk (m : Nat) (π : List Nat) : Bool := (List.range m).all fun i => π[i]? == some i
def nodupB : List Nat → Bool
  | [] => true
  | x :: r => !(r.any (Nat.beq x)) && nodupB r

structure Sub (C : Ctx) (π : List Nat) (σ : St) (tl : List (Nat × SV)) (hl : List (Option Blk)) : Prop where
  ok : (Nat.beq π.length hl.length && (nodupB π && (pinOk C.m π && (tUnder hl.length tl && hUnder hl.length hl)))) = true
  t : tSub π σ.t tl
  h : hSub π π σ.h hl

theorem tSub_get {π : List Nat} {t : Nat → SV} {n : Nat} : ∀ {tl : List (Nat × SV)}, tSub π t tl → tUnder n tl = true → ∀ k, tOf tl k = .any ∨ (t k = ren π (tOf tl k) ∧ (tOf tl k).under n = true)
  | [], _, _, k => .inl rfl
  | (k', v) :: r, h, hu, k => by
    simp only [tOf]
    simp [tUnder] at hu
    cases e : Nat.beq k k' with
    | true => have := Nat.eq_of_beq_eq_true e; subst this; exact .inr ⟨h.1, hu.1⟩
    | false => exact tSub_get h.2 hu.2 k

theorem hSub_get {all : List Nat} {h : Heap} {n : Nat} : ∀ {hl : List (Option Blk)} {π : List Nat}, hSub π all h hl → π.length = hl.length → hUnder n hl = true →
    ∀ (i : Nat) (b : Blk), hl[i]? = some (some b) → ∃ j, π[i]? = some j ∧ h j = some (renB all b) ∧ b.under n = true
  | [], π, _, _, _, i, b, hi => by simp at hi
  | none :: r, [], _, hlen, _, i, b, hi => by simp at hlen
  | some c :: r, [], _, hlen, _, i, b, hi => by simp at hlen
  | none :: r, x :: π, h, hlen, hu, 0, b, hi => by simp at hi
  | none :: r, x :: π, h, hlen, hu, i + 1, b, hi => by
    obtain ⟨j, h1, h2⟩ := hSub_get (hl := r) (π := π) (by simpa [hSub] using h) (by simpa using hlen) (by simpa [hUnder] using hu) i b (by simpa using hi)
    exact ⟨j, by simpa using h1, h2⟩
  | some c :: r, x :: π, h, hlen, hu, 0, b, hi => by
    simp at hi; subst hi
    simp [hUnder] at hu
    simp only [hSub, List.headD_cons] at h
    exact ⟨x, rfl, h.1, hu.1⟩
  | some c :: r, x :: π, h, hlen, hu, i + 1, b, hi => by
    simp [hUnder] at hu
    simp only [hSub, List.tail_cons] at h
    obtain ⟨j, h1, h2⟩ := hSub_get (hl := r) (π := π) h.2 (by simpa using hlen) hu.2 i b (by simpa using hi)
    exact ⟨j, by simpa using h1, h2⟩

theorem nodupB_inj : ∀ {π : List Nat}, nodupB π = true → ∀ (i j n : Nat), π[i]? = some n → π[j]? = some n → i = j
  | [], _, i, j, n, hi, _ => by simp at hi
  | x :: r, h, 0, 0, n, _, _ => rfl
  | x :: r, h, 0, j + 1, n, hi, hj => by
    simp [nodupB] at h hi hj
    subst hi
    have := h.1 x (List.mem_of_getElem? hj)
    simp at this
  | x :: r, h, i + 1, 0, n, hi, hj => by
    simp [nodupB] at h hi hj
    subst hj
    have := h.1 x (List.mem_of_getElem? hi)
    simp at this
  | x :: r, h, i + 1, j + 1, n, hi, hj => by
    simp [nodupB] at h hi hj
    have := nodupB_inj h.2 i j n hi hj
    omega

theorem hOf_some {hl : List (Option Blk)} {i : Nat} {b : Blk} (h : hOf hl i = some b) : hl[i]? = some (some b) := by
  unfold hOf at h
  rw [List.getD_eq_getElem?_getD] at h
  cases e : hl[i]? with
  | none => rw [e] at h; simp at h
  | some x => rw [e] at h; simp at h; rw [h]

theorem pinOk_get {m : Nat} {π : List Nat} (h : pinOk m π = true) : ∀ i, i < m → π[i]? = some i := by
  intro i hi
  simp only [pinOk, List.all_eq_true, List.mem_range] at h
  have := h i hi
  simpa using this

theorem Sub.rel {C : Ctx} {π : List Nat} {σ : St} {tl : List (Nat × SV)} {hl : List (Option Blk)} (hsub : Sub C π σ tl hl) {M F : Imm} {pin ρ : Names} {a : Act} {w : World}
    (hs : SR0 C M F pin ρ σ a w) : SR C M F pin (back π ρ) (stOf tl hl) a w := by
  obtain ⟨hok, ht, hh⟩ := hsub
  simp only [Bool.and_eq_true] at hok
  obtain ⟨hlen, hnd, hpin, htu, hhu⟩ := hok
  have hlen := Nat.eq_of_beq_eq_true hlen
  refine ⟨⟨fun k => ?_, hs.sz, hs.df, ?_, ?_, hs.pm, hs.gl⟩, ?_⟩
  · rcases tSub_get ht htu k with e | ⟨e, hu⟩
    · show VR M _ (tOf tl k) _; rw [e]; exact .any _
    · exact (hs.tm k).back _ e (by rw [hlen]; exact hu)
  · refine ⟨hs.hr.imm, hs.hr.frm, hs.hr.dis, ?_, ?_, ?_⟩
    rotate_right
    · intro i S es hi
      obtain ⟨j, hj, hb, _⟩ := hSub_get hh hlen hhu i _ (hOf_some hi)
      obtain ⟨x, hx, g0, g1, g2, g3, g4⟩ := hs.hr.fam j S _ hb
      refine ⟨x, by simp [back, hj, hx], g0, g1, fun p y hp hy h0y => ?_, fun p S' es' hpi hp => ?_, FR.ren.1 g4⟩
      · obtain ⟨bp, hbp⟩ := Option.ne_none_iff_exists'.1 hp
        obtain ⟨q, hq, hqb, _⟩ := hSub_get hh hlen hhu p bp (hOf_some hbp)
        simp only [back, hq, Option.bind_some] at hy
        exact g2 q y (by rw [hqb]; simp) hy h0y
      · obtain ⟨q, hq, hqb, _⟩ := hSub_get hh hlen hhu p _ (hOf_some hp)
        refine g3 q S' _ (fun e => hpi ?_) hqb
        subst e
        exact nodupB_inj hnd p i q hq hj
    · intro i b hi
      obtain ⟨j, hj, hb, hu⟩ := hSub_get hh hlen hhu i b (hOf_some hi)
      obtain ⟨x, hx, hr⟩ := hs.hr.live j _ hb
      refine ⟨x, by simp [back, hj, hx], ?_⟩
      rcases hr with ⟨h0, hg⟩ | ⟨h0, h1, h2, o, h3, h4⟩
      · refine .inl ⟨h0, ?_⟩
        cases b <;> simp_all [renB, Blk.ghost]
      · exact .inr ⟨h0, h1, h2, o, h3, h4.back (by rw [hlen]; exact hu)⟩
    · intro p q x y hp hq hx hy h0x h0y hb
      obtain ⟨bp, hbp⟩ := Option.ne_none_iff_exists'.1 hp
      obtain ⟨bq, hbq⟩ := Option.ne_none_iff_exists'.1 hq
      obtain ⟨i, hi, hip, _⟩ := hSub_get hh hlen hhu p bp (hOf_some hbp)
      obtain ⟨j, hj, hjq, _⟩ := hSub_get hh hlen hhu q bq (hOf_some hbq)
      simp only [back, hi, hj, Option.bind_some] at hx hy
      have := hs.hr.sep i j x y (by rw [hip]; simp) (by rw [hjq]; simp) hx hy h0x h0y hb
      subst this
      exact nodupB_inj hnd p q i hi hj
  · intro n x hn
    have hn' := hs.pm n x hn
    simp [back, pinOk_get hpin n hn', hs.pn n x hn]
  · intro n hn
    have : π[n]? = none := by rw [List.getElem?_eq_none_iff, hlen]; exact hn
    simp [back, this]

theorem W_sub {C : Ctx} {c : Code} {Q : Exit → St → Prop} {σ : St} (π : List Nat) (tl : List (Nat × SV)) (hl : List (Option Blk)) (hsub : Sub C π σ tl hl) (h : W C c Q (stOf tl hl)) : W C c Q σ :=
  fun M F pin ρ a w hs => h M F pin _ a w (hsub.rel hs.toSR0)

/-- A loop by lists that hang on a ghost. -/
theorem W_loop {C : Ctx} {c : Code} {Q : Exit → St → Prop} {σ : St} {α : Type} (tl : α → List (Nat × SV)) (hl : α → List (Option Blk)) (I : α → Prop) (μ : α → Nat) (x0 : α) (π : List Nat)
    (h0 : I x0) (hsub : Sub C π σ (tl x0) (hl x0))
    (round : ∀ x, I x → W C c (thenQ (fun σ' => ∃ x' π, I x' ∧ μ x' < μ x ∧ Sub C π σ' (tl x') (hl x')) Q) (stOf (tl x) (hl x))) : W C (.loop c) Q σ := by
  refine W_loop0 (fun n σ' => ∃ x π, I x ∧ μ x = n ∧ Sub C π σ' (tl x) (hl x)) (μ x0) ⟨x0, π, h0, rfl, hsub⟩ ?_
  rintro n σ' ⟨x, π', hx, rfl, hsub'⟩
  refine W_sub π' _ _ hsub' (W_mono (round x hx) ?_)
  intro e σ'' hq
  cases e with
  | normal =>
    obtain ⟨x', p, h1, h2, h3⟩ := hq
    exact ⟨_, h2, x', p, h1, rfl, h3⟩
  | _ => exact hq

/-- Ways meet: behind x the state is one that the lists tell. -/
theorem W_cut {C : Ctx} {x y : Code} {Q : Exit → St → Prop} {σ : St} {α : Type} (tl : α → List (Nat × SV)) (hl : α → List (Option Blk)) (I : α → Prop)
    (hx : W C x (thenQ (fun σ' => ∃ z π, I z ∧ Sub C π σ' (tl z) (hl z)) Q) σ) (hy : ∀ z, I z → W C y Q (stOf (tl z) (hl z))) : W C (.seq x y) Q σ := by
  refine W_seq (W_mono hx ?_)
  intro e σ' hq
  cases e with
  | normal =>
    obtain ⟨z, π, h1, h2⟩ := hq
    exact W_sub π _ _ h2 (hy z h1)
  | _ => exact hq
end Go.Proofs.YtpdojmebloekgaaDoor.Nice
