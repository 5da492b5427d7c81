/- Functions: what one answers for arguments told so; how its body shows it; how a caller uses it. -/
import Derived.Test.YtpdojmebloekgaaDoorNiceC
namespace Go.Proofs.YtpdojmebloekgaaDoor.Nice
open Go
set_option linter.unusedVariables false

def okOut (m : Nat) (r : SV) (hout : List (Option Blk)) : Bool := Nat.ble m hout.length && (Nat.ble hout.length (m + 8) && (r.under hout.length && hUnder hout.length hout))

/-- The function, called with such arguments in a memory that holds the blocks 'hin' (named 0, 1, ..), returns, with an answer and blocks as 'post' says; nothing else is touched. -/
def Spec (P : Program) (G : Nat → SV) (f : FuncId) (args : List SV) (hin : List Blk) (post : SV → List (Option Blk) → Prop) : Prop :=
  ∀ M F ρ (vs : Array Value) w, (∀ g ρ, VR M ρ (G g) (.pointer (some ⟨g, 0, none⟩))) → HR M F ρ (hOf (hin.map some)) w → vs.size = args.length →
    (∀ (i : Nat) (x : SV), args[i]? = some x → ∃ u, vs[i]? = some u ∧ VR M ρ x u) → (∀ n, hin.length ≤ n → ρ n = none) →
    Calls P f vs w (fun e w' => ∃ M' ρ' r hout u, e = .returned u ∧ M.le M' ∧ ρ.le ρ' ∧ VR M' ρ' r u ∧ HR M' F ρ' (hOf hout) w' ∧ okOut hin.length r hout = true ∧ Same w w' ∧ post r hout)

theorem Spec.mono {P : Program} {G : Nat → SV} {f : FuncId} {args : List SV} {hin : List Blk} {post post' : SV → List (Option Blk) → Prop} (h : Spec P G f args hin post) (hp : ∀ r ho, post r ho → post' r ho) : Spec P G f args hin post' :=
  fun M F ρ vs w h1 h2 h3 h4 h5 => (h M F ρ vs w h1 h2 h3 h4 h5).mono fun e w' ⟨M', ρ', r, ho, u, k1, k2, k3, k4, k5, k6, k7, k8⟩ => ⟨M', ρ', r, ho, u, k1, k2, k3, k4, k5, k6, k7, hp _ _ k8⟩

def argT : Nat → List SV → List (Nat × SV)
  | _, [] => []
  | k, x :: r => (k, x) :: argT (k + 1) r

theorem tOf_argT : ∀ (args : List SV) (k n : Nat), tOf (argT k args) n = if k ≤ n then args.getD (n - k) .any else .any
  | [], k, n => by simp [argT, tOf]
  | x :: r, k, n => by
    simp only [argT, tOf]
    cases e : Nat.beq n k with
    | true => have := Nat.eq_of_beq_eq_true e; subst this; simp
    | false =>
      have hne : n ≠ k := fun h => by subst h; simp at e
      simp only [cond_false]
      rw [tOf_argT r (k + 1) n]
      by_cases h : k + 1 ≤ n
      · rw [if_pos h, if_pos (by omega), show n - k = (n - (k + 1)) + 1 by omega]; simp
      · rw [if_neg h, if_neg (by omega)]

/-- What a function gives back: the slots of its results. -/
def RetIs (C : Ctx) (fn : Func) (σ : St) (r : SV) : Prop :=
  ∀ M F pin ρ a w, SR C M F pin ρ σ a w → ∃ u, (results fn a.tmps).run C.P w = .ok u w ∧ VR M ρ r u

theorem ret1 {C : Ctx} {fn : Func} {σ : St} {s : Tmp} (h : fn.results = #[.tmp s]) : RetIs C fn σ (σ.t s) :=
  fun M F pin ρ a w hs => ⟨_, results_tmp h _ _ _, hs.tm s⟩
theorem ret0 {C : Ctx} {fn : Func} {σ : St} (h : fn.results = #[]) : RetIs C fn σ (.tup []) :=
  fun M F pin ρ a w hs => ⟨_, results_none h _ _ _, .tup [] #[] (fun _ => undef) rfl (fun i hi => by simp at hi) (fun i x hx => by simp at hx)⟩
theorem VR.tupOf {M : Imm} {ρ : Names} (xs : List SV) (vs : Array Value) (hs : vs.size = xs.length) (h : ∀ (i : Nat) (x : SV), xs[i]? = some x → ∃ u, vs[i]? = some u ∧ VR M ρ x u) : VR M ρ (.tup xs) (.tuple vs) := by
  refine .tup xs vs (fun i => vs.getD i undef) hs (fun i hi => ?_) fun i x hx => ?_
  · have : i < vs.size := by omega
    simp [Array.getD, this]
  · obtain ⟨u, hu, hr⟩ := h i x hx
    have hi := (Array.getElem?_eq_some_iff.1 hu).1
    have : vs.getD i undef = u := by
      rw [Array.getD_eq_getD_getElem?, hu]; rfl
    rw [this]; exact hr
theorem VR.aggOf {M : Imm} {ρ : Names} (xs : List SV) (vs : Array Value) (hs : vs.size = xs.length) (h : ∀ (i : Nat) (x : SV), xs[i]? = some x → ∃ u, vs[i]? = some u ∧ VR M ρ x u) : VR M ρ (.agg xs) (.agg vs) := by
  refine .agg xs vs (fun i => vs.getD i undef) hs (fun i hi => ?_) fun i x hx => ?_
  · have : i < vs.size := by omega
    simp [Array.getD, this]
  · obtain ⟨u, hu, hr⟩ := h i x hx
    have : vs.getD i undef = u := by
      rw [Array.getD_eq_getD_getElem?, hu]; rfl
    rw [this]; exact hr
theorem ret2 {C : Ctx} {fn : Func} {σ : St} {s t : Tmp} (h : fn.results = #[.tmp s, .tmp t]) : RetIs C fn σ (.tup [σ.t s, σ.t t]) :=
  fun M F pin ρ a w hs => ⟨_, results_tmp2 h _ _ _, .tupOf _ _ rfl fun i x hx => by
    match i, hx with
    | 0, hx => simp at hx; subst hx; exact ⟨_, rfl, hs.tm s⟩
    | 1, hx => simp at hx; subst hx; exact ⟨_, rfl, hs.tm t⟩⟩
theorem ret3 {C : Ctx} {fn : Func} {σ : St} {s t r : Tmp} (h : fn.results = #[.tmp s, .tmp t, .tmp r]) : RetIs C fn σ (.tup [σ.t s, σ.t t, σ.t r]) :=
  fun M F pin ρ a w hs => ⟨.tuple #[a.tmps.getD s undef, a.tmps.getD t undef, a.tmps.getD r undef], by simp [results, h], .tupOf _ _ rfl fun i x hx => by
    match i, hx with
    | 0, hx => simp at hx; subst hx; exact ⟨_, rfl, hs.tm s⟩
    | 1, hx => simp at hx; subst hx; exact ⟨_, rfl, hs.tm t⟩
    | 2, hx => simp at hx; subst hx; exact ⟨_, rfl, hs.tm r⟩⟩
theorem ret4 {C : Ctx} {fn : Func} {σ : St} {s t r q : Tmp} (h : fn.results = #[.tmp s, .tmp t, .tmp r, .tmp q]) : RetIs C fn σ (.tup [σ.t s, σ.t t, σ.t r, σ.t q]) :=
  fun M F pin ρ a w hs => ⟨.tuple #[a.tmps.getD s undef, a.tmps.getD t undef, a.tmps.getD r undef, a.tmps.getD q undef], by simp [results, h], .tupOf _ _ rfl fun i x hx => by
    match i, hx with
    | 0, hx => simp at hx; subst hx; exact ⟨_, rfl, hs.tm s⟩
    | 1, hx => simp at hx; subst hx; exact ⟨_, rfl, hs.tm t⟩
    | 2, hx => simp at hx; subst hx; exact ⟨_, rfl, hs.tm r⟩
    | 3, hx => simp at hx; subst hx; exact ⟨_, rfl, hs.tm q⟩⟩

/-- The exits of a body. -/
def outQ (C : Ctx) (fn : Func) (post : SV → List (Option Blk) → Prop) : Exit → St → Prop
  | .ret, σ | .normal, σ => ∃ π r' r hout, RetIs C fn σ r' ∧ r' = ren π r ∧ okOut C.m r hout = true ∧ Sub C π σ [] hout ∧ post r hout
  | _, _ => False

theorem fn_intro {P : Program} {G : Nat → SV} {f : FuncId} {fn : Func} {c : Code} {args : List SV} {hin : List Blk} {post : SV → List (Option Blk) → Prop} (hf : P.funcs[f]? = some fn) (hb : fn.body = some c)
    (hn : Nat.ble args.length fn.ntmps = true)
    (h : W ⟨P, fn.ntmps, hin.length, G⟩ c (outQ ⟨P, fn.ntmps, hin.length, G⟩ fn post) (stOf (argT 0 args) (hin.map some))) : Spec P G f args hin post := by
  intro M F ρ vs w hG hH hsz hargs hfr
  have hn' := Nat.le_of_ble_eq_true hn
  refine calls_of_wp hf hb (Code.wp_mono ?_ (h M F ρ ρ { tmps := vs ++ Array.replicate (fn.ntmps - vs.size) undef, defers := [] } w ⟨⟨?_, ?_, rfl, hH, Names.le_refl _, ?_, hG⟩, ?_⟩))
  · rintro e a' w' ⟨M', ρ', σ', h1, h2, h3, h4⟩
    have fin : (∃ π r' r hout, RetIs ⟨P, fn.ntmps, hin.length, G⟩ fn σ' r' ∧ r' = ren π r ∧ okOut hin.length r hout = true ∧ Sub ⟨P, fn.ntmps, hin.length, G⟩ π σ' [] hout ∧ post r hout) →
        a'.defers = [] ∧ ∃ v, (results fn a'.tmps).run P w' = .ok v w' ∧ (∃ M' ρ' r hout u, Ending.returned v = .returned u ∧ M.le M' ∧ ρ.le ρ' ∧ VR M' ρ' r u ∧ HR M' F ρ' (hOf hout) w' ∧ okOut hin.length r hout = true ∧ Same w w' ∧ post r hout) := by
      rintro ⟨π, r', r, hout, hr, rfl, hu, hsub, hp⟩
      obtain ⟨u, hru, hv⟩ := hr M' F ρ ρ' a' w' h2
      have hrel := hsub.rel h2.toSR0
      have hlen : π.length = hout.length := by
        have := hsub.ok
        simp only [Bool.and_eq_true] at this
        exact Nat.eq_of_beq_eq_true this.1
      have hu' : r.under hout.length = true := by
        simp only [okOut, Bool.and_eq_true] at hu
        exact hu.2.2.1
      exact ⟨h2.df, u, hru, M', back π ρ', r, hout, u, rfl, h1, hrel.pn, hv.back r rfl (by rw [hlen]; exact hu'), hrel.hr, hu, h3, hp⟩
    cases e with
    | normal => exact fin h4
    | ret => exact fin h4
    | _ => exact h4.elim
  · intro k
    show VR M ρ (tOf (argT 0 args) k) _
    rw [tOf_argT]
    simp only [Nat.zero_le, if_true, Nat.sub_zero]
    rw [List.getD_eq_getElem?_getD]
    cases e : args[k]? with
    | none => exact .any _
    | some x =>
      obtain ⟨u, hu, hr⟩ := hargs k x e
      have hk := (Array.getElem?_eq_some_iff.1 hu).1
      have : (vs ++ Array.replicate (fn.ntmps - vs.size) undef).getD k undef = u := by
        rw [Array.getD_eq_getD_getElem?, Array.getElem?_append_left hk, hu]; rfl
      rw [this]; exact hr
  · simp; omega
  · intro n x hx
    rcases Nat.lt_or_ge n hin.length with h | h
    · exact h
    · rw [hfr n h] at hx; cases hx
  · intro n hn
    exact hfr n (by simpa [stOf] using hn)


theorem VR.fwd {M : Imm} {ρ ρ' : Names} {π : List Nat} {n : Nat} (hπ : ∀ i, i < n → ρ' (π.getD i 0) = ρ i) {x : SV} {v : Value} (h : VR M ρ x v) : x.under n = true → VR M ρ' (ren π x) v := by
  have key : ∀ (m : Nat) (z : Own), Nat.blt m n = true → ρ m = some z → ρ' (π.getD m 0) = some z := by
    intro m z hm hz
    rw [hπ m (by simpa using hm)]; exact hz
  induction h with
  | any v => intro _; exact .any v
  | d z v h => intro _; exact .d z v h
  | vp k len f i c b o cur T fz g hb hg hr => intro _; exact .vp k len f i c b o cur T fz g hb hg hr
  | ptr m i c z h => intro hu; exact .ptr _ i c z (key m z (by simpa [SV.under] using hu) h)
  | sl m o len z h hl hR h0 => intro hu; exact .sl _ o len z (key m z (by simpa [SV.under] using hu) h) hl hR h0
  | sl0 m o z h hR a => intro hu; exact .sl0 _ _ z (key m z (by simpa [SV.under] using hu) h) hR a
  | cs m c len z cap h hc => intro hu; exact .cs _ c len z cap (key m z (by simpa [SV.under] using hu) h) hc
  | opY m z h => intro hu; exact .opY _ z (key m z (by simpa [SV.under] using hu) h)
  | opN m => intro hu; exact .opN _
  | map m z h => intro hu; exact .map _ z (key m z (by simpa [SV.under] using hu) h)
  | fn f caps vs g hs hg hr ih =>
    intro hu
    have hu : underL n caps = true := by simpa [SV.under] using hu
    refine .fn f _ vs g (by rw [renL_length]; exact hs) (by rw [renL_length]; exact hg) fun i y hy => ?_
    rw [renL_get] at hy
    cases e : caps[i]? with
    | none => rw [e] at hy; cases hy
    | some z => rw [e] at hy; cases hy; exact ih i z e (underL_get n caps hu i z e)
  | agg xs vs g hs hg hr ih =>
    intro hu
    have hu : underL n xs = true := by simpa [SV.under] using hu
    refine .agg _ vs g (by rw [renL_length]; exact hs) (by rw [renL_length]; exact hg) fun i y hy => ?_
    rw [renL_get] at hy
    cases e : xs[i]? with
    | none => rw [e] at hy; cases hy
    | some z => rw [e] at hy; cases hy; exact ih i z e (underL_get n xs hu i z e)
  | tup xs vs g hs hg hr ih =>
    intro hu
    have hu : underL n xs = true := by simpa [SV.under] using hu
    refine .tup _ vs g (by rw [renL_length]; exact hs) (by rw [renL_length]; exact hg) fun i y hy => ?_
    rw [renL_get] at hy
    cases e : xs[i]? with
    | none => rw [e] at hy; cases hy
    | some z => rw [e] at hy; cases hy; exact ih i z e (underL_get n xs hu i z e)
  | iface t z v h ih => intro hu; exact .iface t _ v (ih (by simpa [SV.under] using hu))

theorem BR.fwd {M : Imm} {ρ ρ' : Names} {π : List Nat} {n : Nat} (hπ : ∀ i, i < n → ρ' (π.getD i 0) = ρ i) {z : Own} {b : Blk} {o : Obj} (h : BR M ρ z b o) (hu : b.under n = true) : BR M ρ' z (renB π b) o := by
  cases b with
  | cells ty k xs => cases o with
    | cells cur T fz =>
      obtain ⟨h1, h2, h3, h4, h5, h6⟩ := h
      refine ⟨h1, h2, h3, h4, by rw [renL_length]; exact h5, fun j s hs => ?_⟩
      rw [renL_get] at hs
      cases e : xs[j]? with
      | none => rw [e] at hs; cases hs
      | some y =>
        rw [e] at hs; cases hs
        obtain ⟨v, hv, hr⟩ := h6 j y e
        exact ⟨v, hv, hr.fwd hπ (underL_get n xs hu j y e)⟩
    | _ => exact h.elim
  | rows ty k len f => cases o <;> exact h
  | map es => cases o <;> exact h
  | fam S es => cases o with
    | map ents cl =>
      obtain ⟨h0, h1, h2, h3⟩ := h
      refine ⟨h0, h1, h2, fun p hp => ?_⟩
      obtain ⟨q, hq, rfl⟩ := renO_mem hp
      obtain ⟨y, hy, hr⟩ := h3 q hq
      exact ⟨y, hy, hr.fwd hπ ((List.all_eq_true.1 hu) q hq)⟩
    | cells cur T fz =>
      refine ⟨h.1, fun p hp => ?_⟩
      obtain ⟨q, hq, rfl⟩ := renO_mem hp
      obtain ⟨y, hy, hr⟩ := h.2 q hq
      exact ⟨y, hy, hr.fwd hπ ((List.all_eq_true.1 hu) q hq)⟩
    | _ => exact h.elim
  | iter m since seen => cases o with
    | mapIter mp s' seen' cl => exact ⟨h.1.fwd hπ hu, h.2⟩
    | _ => exact h.elim

/-- The caller's names for the callee's blocks, with what the callee finds there. -/
def bsOf (π : List Nat) : List Nat → List Blk → List (Nat × Blk)
  | i :: r, b :: l => (i, renB π b) :: bsOf π r l
  | _, _ => []
/-- What the caller's memory is behind the call. -/
def wrOf (π : List Nat) : List Nat → List (Option Blk) → List (Nat × Option Blk)
  | i :: r, b :: l => (i, b.map (renB π)) :: wrOf π r l
  | _, _ => []
def newNames (nm : Nat) : Nat → List Nat
  | 0 => []
  | n + 1 => nm :: newNames (nm + 1) n

theorem newNames_length (nm : Nat) : ∀ n, (newNames nm n).length = n := by
  intro n; induction n generalizing nm with
  | zero => rfl
  | succ n ih => simp [newNames, ih]
theorem newNames_get : ∀ (n nm i : Nat), i < n → (newNames nm n)[i]? = some (nm + i)
  | 0, nm, i, h => absurd h (Nat.not_lt_zero _)
  | n + 1, nm, 0, h => by simp [newNames]
  | n + 1, nm, i + 1, h => by simp [newNames]; rw [newNames_get n (nm + 1) i (by omega)]; congr 1; omega

theorem bsOf_get {π : List Nat} : ∀ (l : List Nat) (bs : List Blk), l.length = bs.length → ∀ (i : Nat) (b : Blk), bs[i]? = some b → ∃ j, l[i]? = some j ∧ (j, renB π b) ∈ bsOf π l bs
  | [], [], _, i, b, h => by simp at h
  | [], _ :: _, h, _, _, _ => by simp at h
  | _ :: _, [], h, _, _, _ => by simp at h
  | x :: l, c :: bs, hl, 0, b, h => by simp at h; subst h; exact ⟨x, rfl, List.mem_cons_self ..⟩
  | x :: l, c :: bs, hl, i + 1, b, h => by
    obtain ⟨j, h1, h2⟩ := bsOf_get l bs (by simpa using hl) i b (by simpa using h)
    exact ⟨j, by simpa using h1, List.mem_cons_of_mem _ h2⟩

theorem wrOf_keys {π : List Nat} : ∀ (l : List Nat) (bs : List (Option Blk)) (p : Nat × Option Blk), p ∈ wrOf π l bs → ∃ (i : Nat) (b : Option Blk), l[i]? = some p.1 ∧ bs[i]? = some b ∧ p.2 = b.map (renB π)
  | [], _, p, h => by simp [wrOf] at h
  | _ :: _, [], p, h => by simp [wrOf] at h
  | x :: l, c :: bs, p, h => by
    simp only [wrOf] at h
    rcases List.mem_cons.1 h with rfl | h
    · exact ⟨0, c, rfl, rfl, rfl⟩
    · obtain ⟨i, b, h1, h2, h3⟩ := wrOf_keys l bs p h
      exact ⟨i + 1, b, by simpa using h1, by simpa using h2, h3⟩

theorem wrH_wrOf {π : List Nat} : ∀ (l : List Nat) (bs : List (Option Blk)) (h : Heap), l.length = bs.length → (∀ i j n : Nat, l[i]? = some n → l[j]? = some n → i = j) →
    (∀ (i n : Nat) (b : Option Blk), l[i]? = some n → bs[i]? = some b → wrH h (wrOf π l bs) n = b.map (renB π)) ∧ (∀ n, n ∉ l → wrH h (wrOf π l bs) n = h n)
  | [], [], h, _, _ => ⟨fun i n b hi => by simp at hi, fun n _ => rfl⟩
  | [], _ :: _, _, hl, _ => by simp at hl
  | _ :: _, [], _, hl, _ => by simp at hl
  | x :: l, c :: bs, h, hl, hnd => by
    obtain ⟨h1, h2⟩ := wrH_wrOf (π := π) l bs (upd h x (c.map (renB π))) (by simpa using hl) (fun i j n hi hj => by
      have := hnd (i + 1) (j + 1) n (by simpa using hi) (by simpa using hj); omega)
    constructor
    · intro i n b hi hb
      cases i with
      | zero =>
        simp at hi hb; subst hi; subst hb
        simp only [wrOf, wrH]
        rw [h2 x, upd_same]
        intro hm
        obtain ⟨j, hj⟩ := List.mem_iff_getElem?.1 hm
        have := hnd 0 (j + 1) x rfl (by simpa using hj)
        omega
      | succ i => simp only [wrOf, wrH]; exact h1 i n b (by simpa using hi) (by simpa using hb)
    · intro n hn
      simp only [wrOf, wrH]
      rw [h2 n (fun e => hn (List.mem_cons_of_mem _ e)), upd_other]
      rintro rfl; exact hn (List.mem_cons_self ..)

theorem ghost_renB (π : List Nat) (b : Blk) : (renB π b).ghost = b.ghost := by
  cases b <;> rfl

/-- The blocks of a caller's that a callee may neither see nor turn. -/
def Passed (ρ : Names) (h : Heap) (π : List Nat) (b : Nat) : Prop := (∃ (i n : Nat) (x : Own), π[i]? = some n ∧ ρ n = some x ∧ 0 < x.R ∧ x.b = b) ∨ ∃ (i n : Nat) (S : List Nat) (es : Fam), π[i]? = some n ∧ h n = some (.fam S es) ∧ b ∈ S
noncomputable def frameOf (M F : Imm) (ρ : Names) (h : Heap) (π : List Nat) (w : World) : Imm := fun b =>
  open Classical in
  if F b ≠ none then F b else if M b = none ∧ ¬ Passed ρ h π b then w.heap[b]? else none

/-- What a call answers in the caller's own names. -/
theorem call_world {P : Program} {G : Nat → SV} {f : FuncId} {args : List SV} {hin : List Blk} {post : SV → List (Option Blk) → Prop} (hF : Spec P G f args hin post)
    {M F : Imm} {ρ : Names} {h : Heap} {w : World} {π : List Nat} {nm : Nat} {vs : Array Value} (hG : ∀ g ρ, VR M ρ (G g) (.pointer (some ⟨g, 0, none⟩)))
    (hH : HR M F ρ h w) (hπ : π.length = hin.length) (hnd : nodupB π = true) (hbs : ∀ p, p ∈ bsOf π π hin → h p.1 = some p.2) (hu : hUnder hin.length (hin.map some) = true)
    (hua : underL hin.length args = true) (hsz : vs.size = args.length) (hargs : ∀ (i : Nat) (x : SV), args[i]? = some x → ∃ u, vs[i]? = some u ∧ VR M ρ (ren π x) u) (hfr : ∀ n, nm ≤ n → n < nm + 8 → ρ n = none) :
    Calls P f vs w (fun e w' => ∃ M' ρ' r hout u π2, e = .returned u ∧ π2 = π ++ newNames nm (hout.length - hin.length) ∧ M.le M' ∧ ρ.le ρ' ∧ (∀ n, n < nm ∨ nm + 8 ≤ n → ρ' n = ρ n) ∧ VR M' ρ' (ren π2 r) u ∧
      HR M' F ρ' (wrH h (wrOf π2 π2 hout)) w' ∧ Same w w' ∧ post r hout) := by
  have hlive : ∀ (i : Nat) (b : Blk), hin[i]? = some b → ∃ n, π[i]? = some n ∧ h n = some (renB π b) := by
    intro i b hb
    obtain ⟨n, hn, hm⟩ := bsOf_get (π := π) π hin hπ i b hb
    exact ⟨n, hn, hbs _ hm⟩
  have hsome : ∀ (i n : Nat), π[i]? = some n → ∃ b, hin[i]? = some b ∧ h n = some (renB π b) ∧ ∃ x, ρ n = some x := by
    intro i n hn
    have hi : i < hin.length := by rw [← hπ]; exact (List.getElem?_eq_some_iff.1 hn).1
    obtain ⟨n', hn', hb⟩ := hlive i _ (List.getElem?_eq_getElem hi)
    rw [hn] at hn'; obtain rfl := Option.some.inj hn'
    obtain ⟨x, hx, _⟩ := hH.live n _ hb
    exact ⟨_, List.getElem?_eq_getElem hi, hb, x, hx⟩
  have hundb : ∀ (i : Nat) (b : Blk), hin[i]? = some b → b.under hin.length = true := by
    have : ∀ (l : List Blk) (n : Nat), hUnder n (l.map some) = true → ∀ (i : Nat) (b : Blk), l[i]? = some b → b.under n = true := by
      intro l n
      induction l with
      | nil => intro _ i b hb; simp at hb
      | cons c l ih =>
        intro hl i b hb
        simp [hUnder] at hl
        cases i with
        | zero => simp at hb; subst hb; exact hl.1
        | succ i => exact ih hl.2 i b (by simpa using hb)
    exact this hin _ hu
  -- the callee's view
  have hHc : HR M (frameOf M F ρ h π w) (back π ρ) (hOf (hin.map some)) w := by
    have hFc : ∀ b, F b = none → Passed ρ h π b → frameOf M F ρ h π w b = none := by
      intro b hb hex
      unfold frameOf
      rw [if_neg (by simp [hb]), if_neg (fun h => h.2 hex)]
    refine ⟨hH.imm, ?_, ?_, ?_, ?_, ?_⟩
    rotate_right
    · intro i S es hi
      have hi' : hin[i]? = some (.fam S es) := by
        have := hOf_some hi
        simp at this; exact this
      obtain ⟨n, hn, hb⟩ := hlive i _ hi'
      obtain ⟨x, hx, g0, g1, g2, g3, g4⟩ := hH.fam n S _ hb
      refine ⟨x, by simp [back, hn, hx], g0, fun b hbS => ⟨(g1 b hbS).1, hFc b (g1 b hbS).2.1 (.inr ⟨i, n, S, _, hn, hb, hbS⟩), (g1 b hbS).2.2⟩, fun p y hp hy h0y => ?_, fun p S' es' hpi hp => ?_, FR.ren.1 g4⟩
      · obtain ⟨bp, hbp⟩ := Option.ne_none_iff_exists'.1 hp
        obtain ⟨np, hnp, hhp⟩ := hlive p bp (by have := hOf_some hbp; simp at this; exact this)
        simp only [back, hnp, Option.bind_some] at hy
        exact g2 np y (by rw [hhp]; simp) hy h0y
      · obtain ⟨np, hnp, hhp⟩ := hlive p _ (by have := hOf_some hp; simp at this; exact this)
        refine g3 np S' _ (fun e => hpi ?_) hhp
        subst e
        exact nodupB_inj hnd p i np hnp hn
    · intro b o hb
      unfold frameOf at hb
      split at hb
      · exact hH.frm b o hb
      · split at hb
        · exact hb
        · cases hb
    · intro b o hb
      unfold frameOf at hb
      split at hb
      · exact hH.dis b o hb
      · split at hb
        · next h1 => exact h1.1
        · cases hb
    · intro i b hi
      have hi' : hin[i]? = some b := by
        have := hOf_some hi
        simp at this; exact this
      obtain ⟨n, hn, hb⟩ := hlive i b hi'
      obtain ⟨x, hx, hr⟩ := hH.live n _ hb
      refine ⟨x, by simp [back, hn, hx], ?_⟩
      rcases hr with ⟨h0, hg⟩ | ⟨h0, h1, h2, o, h3, h4⟩
      · exact .inl ⟨h0, by rw [ghost_renB] at *; exact hg⟩
      · exact .inr ⟨h0, h1, hFc _ h2 (.inl ⟨i, n, x, hn, hx, h0, rfl⟩), o, h3, h4.back (by rw [hπ]; exact hundb i b hi')⟩
    · intro p q x y hp hq hx hy h0x h0y hb
      obtain ⟨bp, hbp⟩ := Option.ne_none_iff_exists'.1 hp
      obtain ⟨bq, hbq⟩ := Option.ne_none_iff_exists'.1 hq
      obtain ⟨np, hnp, hhp⟩ := hlive p bp (by have := hOf_some hbp; simp at this; exact this)
      obtain ⟨nq, hnq, hhq⟩ := hlive q bq (by have := hOf_some hbq; simp at this; exact this)
      simp only [back, hnp, hnq, Option.bind_some] at hx hy
      have := hH.sep np nq x y (by rw [hhp]; simp) (by rw [hhq]; simp) hx hy h0x h0y hb
      subst this
      exact nodupB_inj hnd p q np hnp hnq
  refine (hF M _ (back π ρ) vs w hG hHc hsz ?_ ?_).mono ?_
  · intro i x hx
    obtain ⟨u, hu', hr⟩ := hargs i x hx
    exact ⟨u, hu', hr.back x rfl (by rw [hπ]; exact underL_get _ args hua i x hx)⟩
  · intro n hn
    have : π[n]? = none := by rw [List.getElem?_eq_none_iff, hπ]; exact hn
    simp [back, this]
  rintro e w' ⟨M', ρ', r, hout, u, rfl, hM, hρ, hv, hH', hok, hsame, hp⟩
  simp only [okOut, Bool.and_eq_true] at hok
  obtain ⟨hle, hle8, hur, huo⟩ := hok
  have hle := Nat.le_of_ble_eq_true hle
  have hle8 := Nat.le_of_ble_eq_true hle8
  obtain ⟨k, hk⟩ : ∃ k, hout.length = hin.length + k := ⟨hout.length - hin.length, by omega⟩
  have hk8 : k ≤ 8 := by omega
  have hks : hout.length - hin.length = k := by omega
  generalize hπ2 : π ++ newNames nm (hout.length - hin.length) = π2
  rw [hks] at hπ2
  have hlen2 : π2.length = hout.length := by rw [← hπ2, List.length_append, newNames_length, hπ, hk]
  have get1 : ∀ i, i < hin.length → π2[i]? = π[i]? := fun i hi => by rw [← hπ2, List.getElem?_append_left (by omega)]
  have get2 : ∀ j, j < k → π2[hin.length + j]? = some (nm + j) := fun j hj => by
    rw [← hπ2, List.getElem?_append_right (by omega), show hin.length + j - π.length = j by omega, newNames_get k nm j hj]
  -- the caller's new names
  let ρ2 : Names := fun n => if nm ≤ n ∧ n < nm + k then ρ' (hin.length + (n - nm)) else ρ n
  have hρ2 : ∀ n, ρ2 n = if nm ≤ n ∧ n < nm + k then ρ' (hin.length + (n - nm)) else ρ n := fun n => rfl
  have hle2 : ρ.le ρ2 := by
    intro n x hx
    rw [hρ2, if_neg]
    · exact hx
    · rintro ⟨h1, h2⟩; rw [hfr n h1 (by omega)] at hx; cases hx
  have hsee : ∀ (i n : Nat), π2[i]? = some n → ρ2 n = ρ' i := by
    intro i n hn
    rcases Nat.lt_or_ge i hin.length with hi | hi
    · rw [get1 i hi] at hn
      obtain ⟨b, _, _, x, hx⟩ := hsome i n hn
      rw [hle2 n x hx, hρ i x (by simp [back, hn, hx])]
    · have hi2 : i < hout.length := by rw [← hlen2]; exact (List.getElem?_eq_some_iff.1 hn).1
      obtain ⟨j, rfl⟩ : ∃ j, i = hin.length + j := ⟨i - hin.length, by omega⟩
      rw [get2 j (by omega)] at hn
      obtain rfl := Option.some.inj hn
      rw [hρ2, if_pos ⟨by omega, by omega⟩]
      congr 1; omega
  have hsee' : ∀ i, i < hout.length → ρ2 (π2.getD i 0) = ρ' i := by
    intro i hi
    refine hsee i _ ?_
    rw [List.getD_eq_getElem?_getD, List.getElem?_eq_getElem (by omega)]; rfl
  have hnd2 : ∀ i j n : Nat, π2[i]? = some n → π2[j]? = some n → i = j := by
    have old : ∀ (i n : Nat), i < hin.length → π2[i]? = some n → ¬ (nm ≤ n ∧ n < nm + k) := by
      intro i n hi hn ⟨h1, h2⟩
      rw [get1 i hi] at hn
      obtain ⟨_, _, _, x, hx⟩ := hsome i n hn
      rw [hfr n h1 (by omega)] at hx; cases hx
    have new : ∀ (i n : Nat), hin.length ≤ i → π2[i]? = some n → n = nm + (i - hin.length) ∧ i - hin.length < k := by
      intro i n hi hn
      have hi2 : i < hout.length := by rw [← hlen2]; exact (List.getElem?_eq_some_iff.1 hn).1
      obtain ⟨j, rfl⟩ : ∃ j, i = hin.length + j := ⟨i - hin.length, by omega⟩
      rw [get2 j (by omega)] at hn
      obtain rfl := Option.some.inj hn
      exact ⟨by omega, by omega⟩
    intro i j n hi hj
    rcases Nat.lt_or_ge i hin.length with h1 | h1 <;> rcases Nat.lt_or_ge j hin.length with h2 | h2
    · rw [get1 i h1] at hi; rw [get1 j h2] at hj; exact nodupB_inj hnd i j n hi hj
    · have := new j n h2 hj; exact absurd ⟨by omega, by omega⟩ (old i n h1 hi)
    · have := new i n h1 hi; exact absurd ⟨by omega, by omega⟩ (old j n h2 hj)
    · have a := new i n h1 hi; have b := new j n h2 hj; omega
  obtain ⟨hwr1, hwr2⟩ := wrH_wrOf (π := π2) π2 hout h hlen2 hnd2
  have hundo : ∀ (i : Nat) (b : Blk), hout[i]? = some (some b) → b.under hout.length = true := by
    have : ∀ (l : List (Option Blk)) (n : Nat), hUnder n l = true → ∀ (i : Nat) (b : Blk), l[i]? = some (some b) → b.under n = true := by
      intro l n
      induction l with
      | nil => intro _ i b hb; simp at hb
      | cons c l ih =>
        intro hl i b hb
        cases c with
        | none => cases i with
          | zero => simp at hb
          | succ i => exact ih (by simpa [hUnder] using hl) i b (by simpa using hb)
        | some c =>
          simp [hUnder] at hl
          cases i with
          | zero => simp at hb; subst hb; exact hl.1
          | succ i => exact ih hl.2 i b (by simpa using hb)
    exact this hout _ huo
  have hFle : ∀ b o, F b = some o → frameOf M F ρ h π w b = some o := by
    intro b o hb
    unfold frameOf
    rw [if_pos (by simp [hb])]; exact hb
  have hFn : ∀ b, frameOf M F ρ h π w b = none → F b = none := by
    intro b hb
    cases e : F b with
    | none => rfl
    | some o => rw [hFle b o e] at hb; cases hb
  -- a block of the caller's that was not passed lies still
  have hstay : ∀ n blk x, n ∉ π2 → h n = some blk → ρ n = some x → 0 < x.R → ∃ obj, w.heap[x.b]? = some obj ∧ frameOf M F ρ h π w x.b = some obj ∧ BR M ρ x blk obj := by
    intro n blk x hn hb hx h0
    obtain ⟨x', hx', hr⟩ := hH.live n blk hb
    rw [hx] at hx'; obtain rfl := Option.some.inj hx'
    rcases hr with ⟨h00, _⟩ | ⟨_, h1, h2, o, h3, h4⟩
    · omega
    · refine ⟨o, h3, ?_, h4⟩
      unfold frameOf
      rw [if_neg (by simp [h2]), if_pos ?_]
      · exact h3
      · refine ⟨h1, ?_⟩
        rintro (⟨i, m, y, hm, hy, hy0, hyb⟩ | ⟨i, m, S, es, hm, hmf, hbS⟩)
        · obtain ⟨b, _, hb2, _⟩ := hsome i m hm
          have := hH.sep n m x y (by rw [hb]; simp) (by rw [hb2]; simp) hx hy h0 hy0 hyb.symm
          subst this
          have hi : i < hin.length := by rw [← hπ]; exact (List.getElem?_eq_some_iff.1 hm).1
          exact hn (List.mem_iff_getElem?.2 ⟨i, by rw [get1 i hi]; exact hm⟩)
        · obtain ⟨_, _, _, _, g2, _⟩ := hH.fam m S es hmf
          exact g2 n x (by rw [hb]; simp) hx h0 hbS
  -- a family of the caller's that was not passed lies still
  have hstayF : ∀ n S es, n ∉ π2 → h n = some (.fam S es) → ∀ b, b ∈ S → ∃ obj, w.heap[b]? = some obj ∧ frameOf M F ρ h π w b = some obj := by
    intro n S es hn hb b hbS
    obtain ⟨x, hx, g0, g1, g2, g3, _⟩ := hH.fam n S es hb
    obtain ⟨k1, k2, k3⟩ := g1 b hbS
    refine ⟨_, Array.getElem?_eq_getElem k3, ?_⟩
    unfold frameOf
    rw [if_neg (by simp [k2]), if_pos ?_]
    · exact Array.getElem?_eq_getElem k3
    · refine ⟨k1, ?_⟩
      rintro (⟨i, m, y, hm, hy, hy0, hyb⟩ | ⟨i, m, S', es', hm, hmf, hbS'⟩)
      · obtain ⟨b', _, hb2, _⟩ := hsome i m hm
        refine g2 m y (by rw [hb2]; simp) hy hy0 ?_
        rw [hyb]; exact hbS
      · by_cases e : m = n
        · subst e
          have hi : i < hin.length := by rw [← hπ]; exact (List.getElem?_eq_some_iff.1 hm).1
          exact hn (List.mem_iff_getElem?.2 ⟨i, by rw [get1 i hi]; exact hm⟩)
        · exact g3 m S' es' e hmf b hbS hbS'
  refine ⟨M', ρ2, r, hout, u, π2, rfl, by rw [hks, hπ2], hM, hle2, ?_, hv.fwd hsee' hur, ⟨hH'.imm, fun b o hb => hH'.frm b o (hFle b o hb), fun b o hb => hH'.dis b o (hFle b o hb), ?_, ?_, ?_⟩, hsame, hp⟩
  · intro n hn
    rw [hρ2, if_neg (by omega)]
  rotate_right
  · -- families
    have inside : ∀ (n i : Nat), π2[i]? = some n → ∀ blk, wrH h (wrOf π2 π2 hout) n = some blk → ∃ b, hOf hout i = some b ∧ blk = renB π2 b := by
      intro n i hi blk hn
      have hi2 : i < hout.length := by rw [← hlen2]; exact (List.getElem?_eq_some_iff.1 hi).1
      have hb := hwr1 i n _ hi (List.getElem?_eq_getElem hi2)
      rw [hn] at hb
      cases e : hout[i] with
      | none => rw [e] at hb; cases hb
      | some b =>
        rw [e] at hb
        refine ⟨b, ?_, by simpa using hb⟩
        unfold hOf; rw [List.getD_eq_getElem?_getD, List.getElem?_eq_getElem hi2, e]; rfl
    have fIn : ∀ (n i : Nat) S es, π2[i]? = some n → wrH h (wrOf π2 π2 hout) n = some (.fam S es) → ∃ es', hOf hout i = some (.fam S es') ∧ es = ⟨es'.es, renO π2 es'.op, es'.ly⟩ := by
      intro n i S es hi hn
      obtain ⟨b, hb, e⟩ := inside n i hi _ hn
      obtain ⟨es', rfl, he⟩ := renB_fam e.symm
      exact ⟨es', hb, he⟩
    -- the blocks of a family that was passed are not in the callee's frame; those of one that was not are
    have inS : ∀ (i : Nat) S es b, hOf hout i = some (.fam S es) → b ∈ S → frameOf M F ρ h π w b = none := by
      intro i S es b hi hb
      obtain ⟨_, _, _, g1, _⟩ := hH'.fam i S es hi
      exact (g1 b hb).2.1
    intro n S es hn
    by_cases hmem : n ∈ π2
    · obtain ⟨i, hi⟩ := List.mem_iff_getElem?.1 hmem
      obtain ⟨es', hlv, rfl⟩ := fIn n i S es hi hn
      obtain ⟨x, hx, g0, g1, g2, g3, g4⟩ := hH'.fam i S es' hlv
      refine ⟨x, by rw [hsee i n hi]; exact hx, g0, fun b hb => ⟨(g1 b hb).1, hFn _ (g1 b hb).2.1, (g1 b hb).2.2⟩, fun m y hm hy h0y => ?_, fun m S2 es2 hmn hm b hb => ?_, FR.ren.2 g4⟩
      · by_cases hm2 : m ∈ π2
        · obtain ⟨j, hj⟩ := List.mem_iff_getElem?.1 hm2
          obtain ⟨blk, hblk⟩ := Option.ne_none_iff_exists'.1 hm
          obtain ⟨b, hb, _⟩ := inside m j hj _ hblk
          exact g2 j y (by rw [hb]; simp) (by rw [← hsee j m hj]; exact hy) h0y
        · rw [hwr2 m hm2] at hm
          obtain ⟨blk, hblk⟩ := Option.ne_none_iff_exists'.1 hm
          obtain ⟨y', hy', _⟩ := hH.live m blk hblk
          have := hle2 m y' hy'
          rw [hy] at this; obtain rfl := Option.some.inj this
          obtain ⟨obj, _, k2, _⟩ := hstay m blk y hm2 hblk hy' h0y
          intro hb
          rw [(g1 _ hb).2.1] at k2; cases k2
      · by_cases hm2 : m ∈ π2
        · obtain ⟨j, hj⟩ := List.mem_iff_getElem?.1 hm2
          obtain ⟨es3, hlv3, _⟩ := fIn m j S2 es2 hj hm
          exact g3 j S2 es3 (fun e => hmn (by subst e; rw [hi] at hj; exact (Option.some.inj hj).symm)) hlv3 b hb
        · rw [hwr2 m hm2] at hm
          intro hb2
          obtain ⟨obj, _, k2⟩ := hstayF m S2 es2 hm2 hm b hb2
          rw [(g1 _ hb).2.1] at k2; cases k2
    · rw [hwr2 n hmem] at hn
      obtain ⟨x, hx, g0, g1, g2, g3, g4⟩ := hH.fam n S es hn
      obtain ⟨xo, _, hxF, _⟩ := hstay n _ x hmem hn hx g0
      refine ⟨x, hle2 n x hx, g0, fun b hb => ?_, fun m y hm hy h0y => ?_, fun m S2 es2 hmn hm b hb => ?_, g4.last hM (fun c hc => ?_)⟩
      · obtain ⟨obj, k1, k2⟩ := hstayF n S es hmem hn b hb
        exact ⟨hH'.dis _ _ k2, (g1 b hb).2.1, (Array.getElem?_eq_some_iff.1 (hH'.frm _ _ k2)).1⟩
      · by_cases hm2 : m ∈ π2
        · obtain ⟨j, hj⟩ := List.mem_iff_getElem?.1 hm2
          obtain ⟨blk, hblk⟩ := Option.ne_none_iff_exists'.1 hm
          obtain ⟨b, hb, _⟩ := inside m j hj _ hblk
          obtain ⟨y', hy', hr⟩ := hH'.live j b hb
          have := hsee j m hj
          rw [hy, hy'] at this; obtain rfl := Option.some.inj this
          intro hbS
          obtain ⟨obj, _, k2⟩ := hstayF n S es hmem hn _ hbS
          rcases hr with ⟨h00, _⟩ | ⟨_, _, k3, _⟩
          · omega
          · rw [k3] at k2; cases k2
        · rw [hwr2 m hm2] at hm
          obtain ⟨blk, hblk⟩ := Option.ne_none_iff_exists'.1 hm
          obtain ⟨y', hy', _⟩ := hH.live m blk hblk
          have := hle2 m y' hy'
          rw [hy] at this; obtain rfl := Option.some.inj this
          exact g2 m y hm hy' h0y
      · by_cases hm2 : m ∈ π2
        · obtain ⟨j, hj⟩ := List.mem_iff_getElem?.1 hm2
          obtain ⟨es3, hlv3, _⟩ := fIn m j S2 es2 hj hm
          intro hb2
          obtain ⟨obj, _, k2⟩ := hstayF n S es hmem hn b hb
          rw [inS j S2 es3 b hlv3 hb2] at k2; cases k2
        · rw [hwr2 m hm2] at hm
          exact g3 m S2 es2 hmn hm b hb
      · rcases hc with rfl | hc
        · rw [hH'.frm _ _ hxF]
          obtain ⟨obj, k1, k2, _⟩ := hstay n _ x hmem hn hx g0
          rw [hxF] at k2; obtain rfl := Option.some.inj k2
          exact k1.symm
        · obtain ⟨obj, k1, k2⟩ := hstayF n S es hmem hn c hc
          rw [hH'.frm _ _ k2, k1]
  · intro n blk hn
    by_cases hmem : n ∈ π2
    · obtain ⟨i, hi⟩ := List.mem_iff_getElem?.1 hmem
      have hi2 : i < hout.length := by rw [← hlen2]; exact (List.getElem?_eq_some_iff.1 hi).1
      have hb := hwr1 i n _ hi (List.getElem?_eq_getElem hi2)
      rw [hn] at hb
      cases e : hout[i] with
      | none => rw [e] at hb; cases hb
      | some b =>
        rw [e] at hb
        obtain rfl : blk = renB π2 b := by simpa using hb
        have hob : hout[i]? = some (some b) := by rw [List.getElem?_eq_getElem hi2, e]
        have hlv : hOf hout i = some b := by unfold hOf; rw [List.getD_eq_getElem?_getD, hob]; rfl
        obtain ⟨x, hx, hr⟩ := hH'.live i b hlv
        refine ⟨x, by rw [hsee i n hi]; exact hx, ?_⟩
        rcases hr with ⟨h0, hg⟩ | ⟨h0, h1, h2, o, h3, h4⟩
        · exact .inl ⟨h0, by rw [ghost_renB] at *; exact hg⟩
        · exact .inr ⟨h0, h1, hFn _ h2, o, h3, h4.fwd hsee' (hundo i b hob)⟩
    · rw [hwr2 n hmem] at hn
      obtain ⟨x, hx, hr⟩ := hH.live n blk hn
      refine ⟨x, hle2 n x hx, ?_⟩
      rcases hr with hr | ⟨h0, h1, h2, _, _, _⟩
      · exact .inl hr
      · obtain ⟨obj, _, g2, g3⟩ := hstay n blk x hmem hn hx h0
        exact .inr ⟨h0, hH'.dis _ _ g2, h2, obj, hH'.frm _ _ g2, g3.mono hM hle2⟩
  · intro p q x y hp hq hx hy h0x h0y hb
    have inside : ∀ (n i : Nat) (z : Own), π2[i]? = some n → wrH h (wrOf π2 π2 hout) n ≠ none → ρ2 n = some z → 0 < z.R → hOf hout i ≠ none ∧ ρ' i = some z ∧ frameOf M F ρ h π w z.b = none := by
      intro n i z hi hne hz h0
      have hi2 : i < hout.length := by rw [← hlen2]; exact (List.getElem?_eq_some_iff.1 hi).1
      have hb := hwr1 i n _ hi (List.getElem?_eq_getElem hi2)
      have hz' : ρ' i = some z := by rw [← hsee i n hi]; exact hz
      cases e : hout[i] with
      | none => rw [e] at hb; exact absurd hb hne
      | some b =>
        have hlv : hOf hout i = some b := by unfold hOf; rw [List.getD_eq_getElem?_getD, List.getElem?_eq_getElem hi2, e]; rfl
        obtain ⟨x, hx, hr⟩ := hH'.live i b hlv
        rw [hz'] at hx; obtain rfl := Option.some.inj hx
        rcases hr with ⟨h00, _⟩ | ⟨_, _, h2, _⟩
        · omega
        · exact ⟨by rw [hlv]; simp, hz', h2⟩
    have outside : ∀ (n : Nat) (z : Own), n ∉ π2 → wrH h (wrOf π2 π2 hout) n ≠ none → ρ2 n = some z → 0 < z.R → h n ≠ none ∧ ρ n = some z ∧ frameOf M F ρ h π w z.b ≠ none := by
      intro n z hn hne hz h0
      rw [hwr2 n hn] at hne
      obtain ⟨blk, hblk⟩ := Option.ne_none_iff_exists'.1 hne
      obtain ⟨x, hx, _⟩ := hH.live n blk hblk
      have := hle2 n x hx
      rw [hz] at this; obtain rfl := Option.some.inj this
      obtain ⟨obj, _, g2, _⟩ := hstay n blk _ hn hblk hx h0
      exact ⟨hne, hx, by rw [g2]; simp⟩
    by_cases hpm : p ∈ π2 <;> by_cases hqm : q ∈ π2
    · obtain ⟨i, hi⟩ := List.mem_iff_getElem?.1 hpm
      obtain ⟨j, hj⟩ := List.mem_iff_getElem?.1 hqm
      obtain ⟨a1, a2, a3⟩ := inside p i x hi hp hx h0x
      obtain ⟨b1, b2, b3⟩ := inside q j y hj hq hy h0y
      have := hH'.sep i j x y a1 b1 a2 b2 h0x h0y hb
      subst this
      rw [hi] at hj; exact Option.some.inj hj
    · obtain ⟨i, hi⟩ := List.mem_iff_getElem?.1 hpm
      obtain ⟨a1, a2, a3⟩ := inside p i x hi hp hx h0x
      obtain ⟨b1, b2, b3⟩ := outside q y hqm hq hy h0y
      rw [← hb] at b3; exact absurd a3 b3
    · obtain ⟨j, hj⟩ := List.mem_iff_getElem?.1 hqm
      obtain ⟨a1, a2, a3⟩ := inside q j y hj hq hy h0y
      obtain ⟨b1, b2, b3⟩ := outside p x hpm hp hx h0x
      rw [hb] at b3; exact absurd a3 b3
    · obtain ⟨a1, a2, a3⟩ := outside p x hpm hp hx h0x
      obtain ⟨b1, b2, b3⟩ := outside q y hqm hq hy h0y
      exact hH.sep p q x y a1 b1 a2 b2 h0x h0y hb
end Go.Proofs.YtpdojmebloekgaaDoor.Nice
