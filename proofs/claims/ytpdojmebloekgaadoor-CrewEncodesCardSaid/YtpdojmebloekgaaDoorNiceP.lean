/- More rules: a block under another name, an element of an array of structs. -/
import Derived.Test.YtpdojmebloekgaaDoorNiceO
namespace Go.Proofs.YtpdojmebloekgaaDoor.Nice
open Go
set_option linter.unusedVariables false
set_option linter.unusedSimpArgs false

def mvN (n n' m : Nat) : Nat := bif Nat.beq m n then n' else m
mutual
def mv (n n' : Nat) : SV → SV
  | .ptr m i c => .ptr (mvN n n' m) i c
  | .sl m o l => .sl (mvN n n' m) o l
  | .cs m c l => .cs (mvN n n' m) c l
  | .op m b => .op (mvN n n' m) b
  | .map m => .map (mvN n n' m)
  | .fn f cs => .fn f (mvL n n' cs)
  | .agg xs => .agg (mvL n n' xs)
  | .tup xs => .tup (mvL n n' xs)
  | .iface t x => .iface t (mv n n' x)
  | .any => .any
  | .d x => .d x
  | .vp k l f i c => .vp k l f i c
def mvL (n n' : Nat) : List SV → List SV
  | [] => []
  | x :: r => mv n n' x :: mvL n n' r
end
def mvO (n n' : Nat) : List (Nat × SV) → List (Nat × SV)
  | [] => []
  | (j, x) :: r => (j, mv n n' x) :: mvO n n' r
theorem mvO_mem {n n' : Nat} : ∀ {op : List (Nat × SV)} {p : Nat × SV}, p ∈ mvO n n' op → ∃ q, q ∈ op ∧ p = (q.1, mv n n' q.2)
  | [], p, h => by cases h
  | (j, x) :: r, p, h => by
    rcases List.mem_cons.1 h with rfl | h
    · exact ⟨_, List.mem_cons_self .., rfl⟩
    · obtain ⟨q, hq, e⟩ := mvO_mem h; exact ⟨q, List.mem_cons_of_mem _ hq, e⟩
theorem mvO_of {n n' : Nat} : ∀ {op : List (Nat × SV)} {q : Nat × SV}, q ∈ op → (q.1, mv n n' q.2) ∈ mvO n n' op
  | [], q, h => by cases h
  | (j, x) :: r, q, h => by
    rcases List.mem_cons.1 h with rfl | h
    · exact List.mem_cons_self ..
    · exact List.mem_cons_of_mem _ (mvO_of h)
def mvB (n n' : Nat) : Blk → Blk
  | .cells ty k xs => .cells ty k (mvL n n' xs)
  | .fam S es => .fam S ⟨es.es, mvO n n' es.op, es.ly⟩
  | .iter m since seen => .iter (mv n n' m) since seen
  | b => b
theorem mvL_length (n n' : Nat) : ∀ xs, (mvL n n' xs).length = xs.length
  | [] => rfl
  | x :: r => by simp [mvL, mvL_length n n' r]
theorem mvL_get (n n' : Nat) : ∀ (xs : List SV) (i : Nat), (mvL n n' xs)[i]? = (xs[i]?).map (mv n n')
  | [], i => by simp [mvL]
  | x :: r, 0 => by simp [mvL]
  | x :: r, i + 1 => by simp [mvL, mvL_get n n' r i]
theorem VR.mv {M : Imm} {ρ ρ' : Names} {n n' : Nat} (hρ : ∀ m z, ρ m = some z → ρ' (mvN n n' m) = some z) {x : SV} {v : Value} (h : VR M ρ x v) : VR M ρ' (Nice.mv n n' x) v := by
  have lst : ∀ (xs : List SV) (P : Nat → SV → Prop), (∀ i x, xs[i]? = some x → P i (Nice.mv n n' x)) → ∀ i y, (mvL n n' xs)[i]? = some y → P i y := by
    intro xs P hP i y hy
    rw [mvL_get] at hy
    cases e : xs[i]? with
    | none => rw [e] at hy; cases hy
    | some z => rw [e] at hy; cases hy; exact hP i z e
  induction h with
  | any v => exact .any v
  | d z v h => exact .d z v h
  | vp k len f i c b o cur T fz g hb hg hr => exact .vp k len f i c b o cur T fz g hb hg hr
  | ptr m i c z h => exact .ptr _ i c z (hρ m z h)
  | sl m o len z h hl hR h0 => exact .sl _ o len z (hρ m z h) hl hR h0
  | sl0 m o z h hR a => exact .sl0 _ _ z (hρ m z h) hR a
  | cs m c len z cap h hc => exact .cs _ c len z cap (hρ m z h) hc
  | opY m z h => exact .opY _ z (hρ m z h)
  | opN m => exact .opN _
  | map m z h => exact .map _ z (hρ m z h)
  | fn f caps vs g hs hg hr ih => exact .fn f _ vs g (by rw [mvL_length]; exact hs) (by rw [mvL_length]; exact hg) (lst caps (fun i y => VR M ρ' y (g i)) ih)
  | agg xs vs g hs hg hr ih => exact .agg _ vs g (by rw [mvL_length]; exact hs) (by rw [mvL_length]; exact hg) (lst xs (fun i y => VR M ρ' y (g i)) ih)
  | tup xs vs g hs hg hr ih => exact .tup _ vs g (by rw [mvL_length]; exact hs) (by rw [mvL_length]; exact hg) (lst xs (fun i y => VR M ρ' y (g i)) ih)
  | iface t z v h ih => exact .iface t _ v ih
theorem BR.mv {M : Imm} {ρ ρ' : Names} {n n' : Nat} (hρ : ∀ m z, ρ m = some z → ρ' (mvN n n' m) = some z) {z : Own} {b : Blk} {o : Obj} (h : BR M ρ z b o) : BR M ρ' z (mvB n n' b) o := by
  cases b with
  | cells ty k xs => cases o with
    | cells cur T fz =>
      obtain ⟨h1, h2, h3, h4, h5, h6⟩ := h
      refine ⟨h1, h2, h3, h4, by rw [mvL_length]; exact h5, fun j s hs => ?_⟩
      rw [mvL_get] at hs
      cases e : xs[j]? with
      | none => rw [e] at hs; cases hs
      | some y =>
        rw [e] at hs; cases hs
        obtain ⟨v, hv, hr⟩ := h6 j y e
        exact ⟨v, hv, hr.mv hρ⟩
    | _ => exact h.elim
  | rows ty k len f => cases o <;> exact h
  | map es => cases o <;> exact h
  | fam S es => cases o with
    | map ents cl =>
      obtain ⟨h0, h1, h2, h3⟩ := h
      refine ⟨h0, h1, h2, fun p hp => ?_⟩
      obtain ⟨q, hq, rfl⟩ := mvO_mem hp
      obtain ⟨y, hy, hr⟩ := h3 q hq
      exact ⟨y, hy, hr.mv hρ⟩
    | cells cur T fz =>
      refine ⟨h.1, fun p hp => ?_⟩
      obtain ⟨q, hq, rfl⟩ := mvO_mem hp
      obtain ⟨y, hy, hr⟩ := h.2 q hq
      exact ⟨y, hy, hr.mv hρ⟩
    | _ => exact h.elim
  | iter m since seen => cases o with
    | mapIter mp s' seen' cl => exact ⟨h.1.mv hρ, h.2⟩
    | _ => exact h.elim
theorem FR.mv {M : Imm} {w : World} {b : Nat} {S : List Nat} {es : Fam} {n n' : Nat} (h : FR M w b S es) : FR M w b S ⟨es.es, mvO n n' es.op, es.ly⟩ := h.shuts rfl fun j k s bl hj => ⟨k, hj.1, fun p hp => hj.2 (p.1, Nice.mv n n' p.2) (mvO_of hp)⟩
theorem mvB_fam {n n' : Nat} {b : Blk} {S : List Nat} {es : Fam} (h : mvB n n' b = .fam S es) : ∃ es', b = .fam S es' ∧ es = ⟨es'.es, mvO n n' es'.op, es'.ly⟩ := by
  cases b with
  | fam S' es' => simp only [mvB, Blk.fam.injEq] at h; obtain ⟨rfl, rfl⟩ := h; exact ⟨es', rfl, rfl⟩
  | _ => simp [mvB] at h
theorem ghost_mvB (n n' : Nat) (b : Blk) : (mvB n n' b).ghost = b.ghost := by cases b <;> rfl

/-- A block gets a new name, wherever it is spoken of. -/
theorem rename {C : Ctx} {c : Code} {Q : Exit → St → Prop} {t : Nat → SV} {h : Heap} {nx : Nat} (n : Nat) {b : Blk} (hn : h n = some b) (hne : Nat.beq n nx = false)
    (kk : W C c Q ⟨fun k => mv n nx (t k), upd (upd (fun m => (h m).map (mvB n nx)) n none) nx (some (mvB n nx b)), nx + 8⟩) : W C c Q ⟨t, h, nx⟩ := by
  intro M F pin ρ a w hsr
  have hnn : n ≠ nx := fun e => by subst e; simp at hne
  have hnx : ρ nx = none := hsr.fr nx (Nat.le_refl nx)
  let ρ' : Names := fun m => if m = nx then ρ n else ρ m
  have hle : ρ.le ρ' := by
    intro m x hx
    have : m ≠ nx := by rintro rfl; rw [hnx] at hx; cases hx
    simp [ρ', this, hx]
  have hρ : ∀ m z, ρ m = some z → ρ' (mvN n nx m) = some z := by
    intro m z hz
    unfold mvN
    cases e : Nat.beq m n with
    | true => have := Nat.eq_of_beq_eq_true e; subst this; simp [ρ', hz]
    | false => exact hle m z hz
  have hH := hsr.hr
  refine kk M F pin ρ' a w ⟨⟨fun k => (hsr.tm k).mv hρ, hsr.sz, hsr.df, ⟨hH.imm, hH.frm, hH.dis, ?_, ?_, ?_⟩, Names.le_trans hsr.pn hle, hsr.pm, fun g ρ => hsr.gl g ρ⟩, ?_⟩
  rotate_left 2
  · have key : ∀ p, upd (upd (fun m => (h m).map (mvB n nx)) n none) nx (some (mvB n nx b)) p ≠ none → h (if p = nx then n else p) ≠ none ∧ upd (upd (fun m => (h m).map (mvB n nx)) n none) nx (some (mvB n nx b)) p = (h (if p = nx then n else p)).map (mvB n nx) ∧ ρ' p = ρ (if p = nx then n else p) ∧ (p ≠ nx → p ≠ n) := by
      intro p hp
      rw [upd_eq] at hp ⊢
      by_cases e : p = nx
      · subst e
        simp only [if_true]
        exact ⟨by rw [hn]; simp, by rw [hn]; rfl, by simp [ρ'], fun h => absurd rfl h⟩
      · rw [if_neg e, upd_eq] at hp
        rw [if_neg e, if_neg e, upd_eq]
        by_cases e2 : p = n
        · rw [if_pos e2] at hp; exact absurd rfl hp
        · rw [if_neg e2] at hp ⊢
          exact ⟨fun e3 => by rw [e3] at hp; exact hp rfl, rfl, by simp [ρ', e], fun _ => e2⟩
    intro p S es hp
    have hp : upd (upd (fun m => (h m).map (mvB n nx)) n none) nx (some (mvB n nx b)) p = some (.fam S es) := hp
    obtain ⟨k1, k2, k3, k4⟩ := key p (by rw [hp]; simp)
    rw [hp] at k2
    obtain ⟨b0, hb0⟩ := Option.ne_none_iff_exists'.1 k1
    rw [hb0] at k2
    obtain ⟨es', rfl, rfl⟩ := mvB_fam (Option.some.inj k2).symm
    obtain ⟨x, hx, g0, g1, g2, g3, g4⟩ := hH.fam _ S es' hb0
    refine ⟨x, by rw [k3]; exact hx, g0, g1, fun q y hq hy h0y => ?_, fun q S2 es2 hqp hq => ?_, g4.mv⟩
    · obtain ⟨j1, j2, j3, j4⟩ := key q hq
      exact g2 _ y j1 (by rw [← j3]; exact hy) h0y
    · have hq : upd (upd (fun m => (h m).map (mvB n nx)) n none) nx (some (mvB n nx b)) q = some (.fam S2 es2) := hq
      obtain ⟨j1, j2, j3, j4⟩ := key q (by rw [hq]; simp)
      rw [hq] at j2
      obtain ⟨b2, hb2⟩ := Option.ne_none_iff_exists'.1 j1
      rw [hb2] at j2
      obtain ⟨es3, rfl, rfl⟩ := mvB_fam (Option.some.inj j2).symm
      refine g3 _ S2 es3 (fun e => hqp ?_) hb2
      by_cases ep : p = nx <;> by_cases eq : q = nx
      · rw [ep, eq]
      · rw [if_pos ep, if_neg eq] at e; exact absurd e (j4 eq)
      · rw [if_neg ep, if_pos eq] at e; exact absurd e.symm (k4 ep)
      · rw [if_neg ep, if_neg eq] at e; exact e
  rotate_right 2
  · intro m blk hm
    have hm : upd (upd (fun m => (h m).map (mvB n nx)) n none) nx (some (mvB n nx b)) m = some blk := hm
    rw [upd_eq] at hm
    split at hm
    · next e =>
      subst e; cases hm
      obtain ⟨x, hx, hr⟩ := hH.live n b hn
      refine ⟨x, by simp [ρ', hx], ?_⟩
      rcases hr with ⟨h0, hg⟩ | ⟨h0, h1, h2, o, h3, h4⟩
      · exact .inl ⟨h0, by rw [ghost_mvB]; exact hg⟩
      · exact .inr ⟨h0, h1, h2, o, h3, h4.mv hρ⟩
    · next e =>
      rw [upd_eq] at hm
      split at hm
      · cases hm
      · next e2 =>
        cases e3 : h m with
        | none => simp [e3] at hm
        | some b0 =>
          simp only [e3, Option.map_some, Option.some.injEq] at hm
          subst hm
          obtain ⟨x, hx, hr⟩ := hH.live m b0 e3
          refine ⟨x, hle m x hx, ?_⟩
          rcases hr with ⟨h0, hg⟩ | ⟨h0, h1, h2, o, h3, h4⟩
          · exact .inl ⟨h0, by rw [ghost_mvB]; exact hg⟩
          · exact .inr ⟨h0, h1, h2, o, h3, h4.mv hρ⟩
  · have key : ∀ p x, upd (upd (fun m => (h m).map (mvB n nx)) n none) nx (some (mvB n nx b)) p ≠ none → ρ' p = some x → h (if p = nx then n else p) ≠ none ∧ ρ (if p = nx then n else p) = some x ∧ (p ≠ nx → p ≠ n) := by
      intro p x hp hx
      rw [upd_eq] at hp
      by_cases e : p = nx
      · subst e
        simp only [if_true]
        exact ⟨by rw [hn]; simp, by simpa [ρ'] using hx, fun h => absurd rfl h⟩
      · rw [if_neg e, upd_eq] at hp
        rw [if_neg e]
        by_cases e2 : p = n
        · rw [if_pos e2] at hp; exact absurd rfl hp
        · rw [if_neg e2] at hp
          refine ⟨fun e3 => by rw [e3] at hp; exact hp rfl, by simpa [ρ', e] using hx, fun _ => e2⟩
    intro p q x y hp hq hx hy h0x h0y hb
    obtain ⟨p1, p2, p3⟩ := key p x hp hx
    obtain ⟨q1, q2, q3⟩ := key q y hq hy
    have := hH.sep _ _ x y p1 q1 p2 q2 h0x h0y hb
    by_cases ep : p = nx <;> by_cases eq : q = nx
    · rw [ep, eq]
    · rw [if_pos ep, if_neg eq] at this; exact absurd this.symm (q3 eq)
    · rw [if_neg ep, if_pos eq] at this; exact absurd this (p3 ep)
    · rw [if_neg ep, if_neg eq] at this; exact this
  · intro m hm
    have hm' : nx + 8 ≤ m := hm
    have : m ≠ nx := by omega
    simp only [ρ', if_neg this]
    exact hsr.fr m (by show nx ≤ m; omega)

theorem dc0 {C : Ctx} {ops : List Oper} {i : Nat} {o : Oper} {l : List Oper} {t : Nat → SV} {h h' : Heap} {nx : Nat} {K : St → Prop} {acc : List FP} {f : FuncId} {args : List SV} {hin : List Blk} {r : SV} {hout : List (Option Blk)} (hF : Spec C.P C.G f args hin (fun r' ho => r' = r ∧ ho = hout)) {x : Operand} {cargs : Array Operand} {tys : Array TypeId} {caps : List SV} {fn : Func}
    (π π2 : List Nat) (nm i' : Nat) (hi : i + 1 = i') (hnm : nx + 8 * i = nm) (hp : π ++ newNames nm (hout.length - hin.length) = π2) (hg : o.guard = none) (hdst : o.dst = none) (ho : o.op = .call { callee := .value x, args := cargs, argTypes := tys }) (hx : opv C t x = .fn f caps) (hf : C.P.funcs[f]? = some fn) (hfn : fnOK fn = true)
    (hargs : mapV (opv C t) cargs.toList ++ caps = renL π args) (side : (Nat.beq π.length hin.length && (nodupB π && (hUnder hin.length (hin.map some) && underL hin.length args))) = true)
    (side2 : (Nat.ble hin.length hout.length && Nat.ble hout.length (hin.length + 8)) = true) (hbs : bsHeap h (bsOf π π hin)) (hw : wrHO h (wrOf π2 π2 hout) = some h')
    (k : wops C ops i' l ⟨t, h', nx⟩ (some (acc ++ [((bsOf π π hin).map (·.1), (wrOf π2 π2 hout).map (·.1))])) K) : wops C ops i (o :: l) ⟨t, h, nx⟩ (some acc) K := by
  subst hi; subst hnm; subst hp
  refine st_call (σ := ⟨t, h, nx⟩) π hF hg (by unfold dstOK; rw [hdst]) ho hx hf hfn hargs side side2 hbs ?_
  unfold St.app; rw [hdst, wrHO_eq hw]; exact k

/-- The state, told otherwise, at the end of a piece of code. -/
def Wn (C : Ctx) (K : St → Prop) (σ : St) : Prop := ∀ M F pin ρ a w, SR C M F pin ρ σ a w → ∃ M' ρ' σ', M.le M' ∧ SR C M' F pin ρ' σ' a w ∧ K σ'
theorem wn {C : Ctx} {K : St → Prop} {σ : St} (k : K σ) : Wn C K σ := fun M F pin ρ a w hs => ⟨M, ρ, σ, Imm.le_refl _, hs, k⟩
theorem W_end {C : Ctx} {c : Code} {Q : Exit → St → Prop} {σ : St} (h : W C c (fun e σ' => match e with | .normal => Wn C (Q .normal) σ' | e => Q e σ') σ) : W C c Q σ := by
  intro M F pin ρ a w hs
  refine Code.wp_mono ?_ (h M F pin ρ a w hs)
  rintro e a' w' ⟨M', ρ', σ', h1, h2, h3, h4⟩
  cases e with
  | normal =>
    obtain ⟨M2, ρ2, σ2, g1, g2, g3⟩ := h4 M' F pin ρ' a' w' h2
    exact ⟨M2, ρ2, σ2, Imm.le_trans h1 g1, g2, h3, g3⟩
  | _ => exact ⟨M', ρ', σ', h1, h2, h3, h4⟩
theorem r0n {C : Ctx} {Q : Exit → St → Prop} {σ : St} {id : Nat} {ops : Array Oper} (k : wops C ops.toList 0 ops.toList σ none (fun σ' => Wn C (Q .normal) σ')) : W C (.region id ops false) Q σ := W_end (W_region k)
theorem rd0n {C : Ctx} {Q : Exit → St → Prop} {σ : St} {id : Nat} {ops : Array Oper} (hm : C.P.follows .mixedOrders = true) (k : wops C ops.toList 0 ops.toList σ (some []) (fun σ' => Wn C (Q .normal) σ')) : W C (.region id ops true) Q σ := W_end (W_region_draw hm k)
theorem rowscn {C : Ctx} {K : St → Prop} {t : Nat → SV} {h : Heap} {nx : Nat} (n L' : Nat) (g : Nat → Nat → D) {ty k L : Nat} {f : Nat → Nat → D} (hn : h n = some (.rows ty k L f)) (hl : L = L') (hf : ∀ i c, i < L → c < k → f i c = g i c)
    (kk : Wn C K ⟨t, upd h n (some (.rows ty k L' g)), nx⟩) : Wn C K ⟨t, h, nx⟩ := by
  subst hl
  intro M F pin ρ a w hsr
  refine kk M F pin ρ a w ⟨⟨hsr.tm, hsr.sz, hsr.df, ?_, hsr.pn, hsr.pm, hsr.gl⟩, hsr.fr⟩
  refine hsr.hr.swap n hn (fun x obj hb => ?_) (fun h => by cases L with | zero => rfl | succ L => cases h)
  cases obj with
  | cells cur T fz =>
    obtain ⟨h1, h2, h3, h4, h5, h6⟩ := hb
    exact ⟨h1, h2, h3, h4, h5, fun i c hi hc => by rw [← hf i c hi hc]; exact h6 i c hi hc⟩
  | _ => exact hb.elim
theorem cvaln {C : Ctx} {K : St → Prop} {t : Nat → SV} {h : Heap} {nx : Nat} (s : Nat) (u : SV) {u0 : SV} (hs : (t s).hd = some u0) (hu : u0 = u) (k : Wn C K ⟨upd t s u, h, nx⟩) : Wn C K ⟨t, h, nx⟩ := by
  have same : upd t s u = t := by
    funext n; rw [upd_eq]; split
    · next e => subst e; rw [SV.hd_eq hs, hu]
    · rfl
  rw [← same]; exact k
theorem chvaln {C : Ctx} {K : St → Prop} {t : Nat → SV} {h : Heap} {nx : Nat} (n : Nat) (b' : Blk) {b : Blk} (hs : h n = some b) (hb : b = b') (k : Wn C K ⟨t, upd h n (some b'), nx⟩) : Wn C K ⟨t, h, nx⟩ := by
  have same : upd h n (some b') = h := by
    funext m; rw [upd_eq]; split
    · next e => subst e; rw [hs, hb]
    · rfl
  rw [← same]; exact k

/-- An element of an array of structs. -/
def arrAggS (P : Program) (t : TypeId) (x ix : SV) : Option Out :=
  match P.underlying t with
  | some (.array len e) =>
    match P.info? e, isAggB P e with
    | some i, some true =>
      match x, ix with
      | .agg xs, .d (.val (.int _ n)) => if Nat.ble (n.toNat * i.size + i.size) xs.length then some (0 ≤ n ∧ n < len, [], .agg ((xs.drop (n.toNat * i.size)).take i.size), []) else none
      | _, _ => none
    | _, _ => none
  | _ => none
theorem arrAgg_ok {C : Ctx} {o : Oper} {nm : Nat} {v : Operand → SV} {h : Heap} {x : Out} {t : TypeId} {y ix : Operand} (ho : o.op = .index t y ix) (e : arrAggS C.P t (v y) (v ix) = some x) : Sound C o nm v h x := by
  unfold arrAggS at e
  split at e
  · next len el hel =>
    split at e
    · next i hi hag =>
      split at e
      · next xs kk n hy hix =>
        split at e
        · next hb =>
          cases e
          rintro ⟨h0, h1⟩
          have hb := Nat.le_of_ble_eq_true hb
          refine ⟨ok_pure fun M F ρ a h w hv hH _ => ?_, fun p hp => by simp at hp, rfl⟩
          have e1 := hv y (by rw [ho]; exact mem_ops2 (.inl rfl)); rw [hy] at e1
          have e2 := hv ix (by rw [ho]; exact mem_ops2 (.inr rfl)); rw [hix] at e2
          obtain ⟨vs, hq, hRL⟩ := agg_case e1
          have hlt : 0 ≤ n ∧ n < (len : Int) := ⟨h0, h1⟩
          refine ⟨.agg (vs.extract (n.toNat * i.size) (n.toNat * i.size + i.size)), ?_, .aggOf _ _ ?_ fun j s hs => ?_⟩
          · simp [execOp, ho, hq, e2.val, Instr.index, asIntOf, run_underlying hel, hlt, part, run_isAgg hag, sizeOf, typeInfo, hi]
          · simp [hRL.1]; omega
          · rw [List.getElem?_take] at hs
            split at hs
            · next hj =>
              rw [List.getElem?_drop] at hs
              obtain ⟨u, u1, u2⟩ := hRL.2 _ _ hs
              refine ⟨u, ?_, u2⟩
              rw [Array.getElem?_extract]
              rw [if_pos (by have := hRL.1; omega)]
              exact u1
            · cases hs
        · cases e
      · cases e
    · cases e
  · cases e
theorem sIdxA {C : Ctx} {ops : List Oper} {i : Nat} {o : Oper} {l : List Oper} {t : Nat → SV} {h : Heap} {nx : Nat} {K : St → Prop} {ty : TypeId} {y ix : Operand} {vc : Prop} {xs : List SV} (d nm i' : Nat) (hi : i + 1 = i') (hnm : nx + 8 * i = nm) (hg : o.guard = none) (hdst : o.dst = some d) (hd : Nat.blt d C.sz = true) (ho : o.op = .index ty y ix)
    (e : arrAggS C.P ty (opv C t y) (opv C t ix) = some (vc, [], .agg xs, [])) (hvc : vc) (k : wops C ops i' l ⟨upd t d (.agg xs), h, nx⟩ none K) : wops C ops i (o :: l) ⟨t, h, nx⟩ none K := by
  subst hi; subst hnm
  obtain ⟨h1, h2, h3⟩ := arrAgg_ok (C := C) (nm := nx + 8 * i) (h := h) (v := opv C t) ho e hvc
  refine st_ok (σ := ⟨t, h, nx⟩) hg (by unfold dstOK; rw [hdst]; exact hd) h1 h2 h3 ?_
  unfold St.app; rw [hdst]; exact k
end Go.Proofs.YtpdojmebloekgaaDoor.Nice
