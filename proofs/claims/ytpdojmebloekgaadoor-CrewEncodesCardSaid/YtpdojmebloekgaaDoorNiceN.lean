/- Answers that lie in variables of the function's own. -/
import Derived.Test.YtpdojmebloekgaaDoorNiceM
namespace Go.Proofs.YtpdojmebloekgaaDoor.Nice
open Go
set_option linter.unusedVariables false
set_option linter.unusedSimpArgs false

def resS (P : Program) (t : Nat → SV) (h : Heap) : List ResultVar → Option (Prop × List SV)
  | [] => some (True, [])
  | .tmp s :: r => match resS P t h r with
    | some (vc, ys) => some (vc, t s :: ys)
    | none => none
  | .cell a ty :: r => match loadS P ty (t a) h, resS P t h r with
    | some (vc, _, u), some (vc', ys) => some (vc ∧ vc', u :: ys)
    | _, _ => none
def oneOf : List SV → SV
  | [x] => x
  | ys => .tup ys

def readR (tmps : Array Value) : ResultVar → Sem Value
  | .tmp t => pure (tmps.getD t undef)
  | .cell a t => do loadVar t (← asAddr (tmps.getD a undef))
theorem results_eq (fn : Func) (tmps : Array Value) : results fn tmps = (do let vs ← fn.results.mapM (readR tmps); pure (if h : vs.size = 1 then vs[0] else .tuple vs)) := by
  unfold results
  refine congrArg (fun f : ResultVar → Sem Value => (do let vs ← fn.results.mapM f; pure (if h : vs.size = 1 then vs[0] else .tuple vs) : Sem Value)) (funext fun x => ?_)
  cases x <;> rfl
theorem resS_ok {C : Ctx} {t : Nat → SV} {h : Heap} {nx : Nat} : ∀ {l : List ResultVar} {vc : Prop} {ys : List SV}, resS C.P t h l = some (vc, ys) → vc → ∀ M F pin ρ a w, SR C M F pin ρ ⟨t, h, nx⟩ a w →
    ∃ vs : List Value, (l.mapM (readR a.tmps)).run C.P w = Result.ok vs w ∧ vs.length = ys.length ∧ ∀ (i : Nat) (x : SV), ys[i]? = some x → ∃ u, vs[i]? = some u ∧ VR M ρ x u
  | [], vc, ys, e, hvc, M, F, pin, ρ, a, w, hs => by
    cases e
    exact ⟨[], by simp, rfl, fun i x hx => by simp at hx⟩
  | .tmp s :: r, vc, ys, e, hvc, M, F, pin, ρ, a, w, hs => by
    unfold resS at e
    split at e
    · next vc' ys' hr =>
      cases e
      obtain ⟨vs, h1, h2, h3⟩ := resS_ok hr hvc M F pin ρ a w hs
      refine ⟨a.tmps.getD s undef :: vs, by simp [List.mapM_cons, readR, h1], by simp [h2], fun i x hx => ?_⟩
      cases i with
      | zero => simp at hx; subst hx; exact ⟨_, rfl, hs.tm s⟩
      | succ i => exact h3 i x (by simpa using hx)
    · cases e
  | .cell s ty :: r, vc, ys, e, hvc, M, F, pin, ρ, a, w, hs => by
    unfold resS at e
    split at e
    · next vc' bs u vc'' ys' hl hr =>
      cases e
      obtain ⟨vs, h1, h2, h3⟩ := resS_ok hr hvc.2 M F pin ρ a w hs
      obtain ⟨k1, k2⟩ := loadS_ok hl hvc.1
      obtain ⟨v, _, ⟨ad, had, hload⟩, hv⟩ := k2 M F ρ h w (a.tmps.getD s undef) (hs.tm s) hs.hr k1
      refine ⟨v :: vs, by simp [List.mapM_cons, readR, h1, had, asAddr, hload], by simp [h2], fun i x hx => ?_⟩
      cases i with
      | zero => simp at hx; subst hx; exact ⟨_, rfl, hv⟩
      | succ i => exact h3 i x (by simpa using hx)
    · cases e

theorem retN {C : Ctx} {fn : Func} {t : Nat → SV} {h : Heap} {nx : Nat} {rs : Array ResultVar} {vc : Prop} {ys : List SV} (hres : fn.results = rs) (e : resS C.P t h rs.toList = some (vc, ys)) (hvc : vc) : RetIs C fn ⟨t, h, nx⟩ (oneOf ys) := by
  intro M F pin ρ a w hs
  obtain ⟨vs, h1, h2, h3⟩ := resS_ok e hvc M F pin ρ a w hs
  have hm : (rs.mapM (readR a.tmps)).run C.P w = Result.ok vs.toArray w := by
    rw [Array.mapM_eq_mapM_toList]
    simp [h1]
  match ys, h2, h3 with
  | [x], h2, h3 =>
    obtain ⟨u, hu, hr⟩ := h3 0 x rfl
    have : vs = [u] := by
      match vs, h2, hu with
      | [v], _, hu => simp at hu; subst hu; rfl
    subst this
    refine ⟨u, ?_, hr⟩
    rw [results_eq, hres]
    simp [hm]
  | [], h2, h3 =>
    have : vs = [] := by simpa using h2
    subst this
    refine ⟨.tuple #[], ?_, .tupOf [] #[] rfl fun i x hx => by simp at hx⟩
    rw [results_eq, hres]
    simp [hm]
  | x :: y :: zs, h2, h3 =>
    refine ⟨.tuple vs.toArray, ?_, .tupOf (x :: y :: zs) vs.toArray (by simpa using h2) fun i z hz => ?_⟩
    · rw [results_eq, hres]
      have : ¬ vs.length = 1 := by rw [h2]; simp
      simp [hm, this]
    · obtain ⟨u, hu, hr⟩ := h3 i z hz
      exact ⟨u, by simpa using hu, hr⟩

section
variable {C : Ctx} {fn : Func} {post : SV → List (Option Blk) → Prop} {t : Nat → SV} {h : Heap} {nx : Nat}
/-- Answers of any kind. -/
theorem outN {rs : Array ResultVar} {π : List Nat} (r : SV) {hout : List (Option Blk)} {vc : Prop} {ys : List SV} (hres : fn.results = rs) (e : resS C.P t h rs.toList = some (vc, ys)) (hvc : vc) (hr : oneOf ys = ren π r) (hok : okOut C.m r hout = true) (hS : (Nat.beq π.length hout.length && (nodupB π && (pinOk C.m π && (tUnder hout.length [] && hUnder hout.length hout)))) = true)
    (hh : hSub π π h hout) (hp : post r hout) : outQ C fn post .ret ⟨t, h, nx⟩ :=
  ⟨π, oneOf ys, r, hout, retN hres e hvc, hr, hok, ⟨hS, trivial, hh⟩, hp⟩
end
/-- A block seen otherwise. -/
theorem HR.swap {M F : Imm} {ρ : Names} {h : Heap} {w : World} (H : HR M F ρ h w) (n : Nat) {b b' : Blk} (hn : h n = some b) (hB : ∀ x obj, BR M ρ x b obj → BR M ρ x b' obj) (hg : b.ghost = true → b'.ghost = true) (hfm : ∀ S es, b' ≠ .fam S es := by intro S es h; cases h) : HR M F ρ (upd h n (some b')) w := by
  refine ⟨H.imm, H.frm, H.dis, fun m blk hm => ?_, fun m m' x y hm hm' => ?_, ?_⟩
  rotate_right
  · refine H.famKeep (fun m S es hm => ?_) (Names.le_refl _) (Imm.le_refl _) (Nat.le_refl _) (fun _ _ _ _ _ _ a b => ⟨a, b⟩) (fun _ _ _ _ _ _ _ _ _ _ => rfl) (fun m S es p y hm hp hy h0 => .inl ⟨fun e => ?_, hy⟩)
    · rw [upd_eq] at hm
      split at hm
      · exact absurd (Option.some.inj hm) (hfm S es)
      · exact hm
    · rw [upd_eq] at hp; split at hp
      · next e2 => subst e2; rw [hn] at e; cases e
      · exact hp e
  · rw [upd_eq] at hm
    split at hm
    · next e =>
      subst e
      cases hm
      obtain ⟨x, hx, hr⟩ := H.live m b hn
      rcases hr with ⟨h0, hr⟩ | ⟨h0, h1, h2, obj, h3, h4⟩
      · exact ⟨x, hx, .inl ⟨h0, hg hr⟩⟩
      · exact ⟨x, hx, .inr ⟨h0, h1, h2, obj, h3, hB x obj h4⟩⟩
    · exact H.live m blk hm
  · refine H.sep m m' x y ?_ ?_
    · rw [upd_eq] at hm; split at hm
      · next e => subst e; rw [hn]; intro h; cases h
      · exact hm
    · rw [upd_eq] at hm'; split at hm'
      · next e => subst e; rw [hn]; intro h; cases h
      · exact hm'
/-- Cells that are data, as rows. -/
theorem torows {C : Ctx} {c : Code} {Q : Exit → St → Prop} {t : Nat → SV} {h : Heap} {nx : Nat} (n L : Nat) (f : Nat → Nat → D) {ty k : Nat} {xs : List SV} (hn : h n = some (.cells ty k xs)) (hk : 0 < k) (hl : L * k ≤ xs.length) (hf : ∀ i c, i < L → c < k → xs[i * k + c]? = some (.d (f i c)))
    (kk : W C c Q ⟨t, upd h n (some (.rows ty k L f)), nx⟩) : W C c Q ⟨t, h, nx⟩ := by
  intro M F pin ρ a w hsr
  refine kk M F pin ρ a w ⟨⟨hsr.tm, hsr.sz, hsr.df, ?_, hsr.pn, hsr.pm, hsr.gl⟩, hsr.fr⟩
  refine hsr.hr.swap n hn (fun x obj hb => ?_) (fun h => by cases h)
  cases obj with
  | cells cur T fz =>
    obtain ⟨h1, h2, h3, h4, h5, h6⟩ := hb
    refine ⟨h1, h2, h3, h4, ?_, fun i c hi hc => ?_⟩
    · have : L * k ≤ x.R * k := by omega
      exact Nat.le_of_mul_le_mul_right this hk
    · obtain ⟨v, k1, k2⟩ := h6 _ _ (hf i c hi hc)
      exact ⟨v, k1, by cases k2 with | d _ _ h => exact h⟩
  | _ => exact hb.elim
/-- Rows written otherwise. -/
theorem rowsc {C : Ctx} {c : Code} {Q : Exit → St → Prop} {t : Nat → SV} {h : Heap} {nx : Nat} (n L' : Nat) (g : Nat → Nat → D) {ty k L : Nat} {f : Nat → Nat → D} (hn : h n = some (.rows ty k L f)) (hl : L = L') (hf : ∀ i c, i < L → c < k → f i c = g i c)
    (kk : W C c Q ⟨t, upd h n (some (.rows ty k L' g)), nx⟩) : W C c Q ⟨t, h, nx⟩ := by
  subst hl
  intro M F pin ρ a w hsr
  refine kk M F pin ρ a w ⟨⟨hsr.tm, hsr.sz, hsr.df, ?_, hsr.pn, hsr.pm, hsr.gl⟩, hsr.fr⟩
  refine hsr.hr.swap n hn (fun x obj hb => ?_) (fun h => by cases L with | zero => rfl | succ L => cases h)
  cases obj with
  | cells cur T fz =>
    obtain ⟨h1, h2, h3, h4, h5, h6⟩ := hb
    exact ⟨h1, h2, h3, h4, h5, fun i c hi hc => by rw [← hf i c hi hc]; exact h6 i c hi hc⟩
  | _ => exact hb.elim
/-- A slot that holds data, written otherwise. -/
theorem slotc {C : Ctx} {c : Code} {Q : Exit → St → Prop} {t : Nat → SV} {h : Heap} {nx : Nat} (s : Nat) (u' : SV) {u : SV} (hs : (t s).hd = some u) (hu : ∀ M ρ v, VR M ρ u v → VR M ρ u' v) (kk : W C c Q ⟨upd t s u', h, nx⟩) : W C c Q ⟨t, h, nx⟩ := by
  intro M F pin ρ a w hsr
  refine kk M F pin ρ a w ⟨⟨fun n => ?_, hsr.sz, hsr.df, hsr.hr, hsr.pn, hsr.pm, hsr.gl⟩, hsr.fr⟩
  show VR M ρ (upd t s u' n) _
  rw [upd_eq]
  split
  · next e => subst e; have := hsr.tm n; rw [show (⟨t, h, nx⟩ : St).t n = u from SV.hd_eq hs] at this; exact hu M ρ _ this
  · exact hsr.tm n
theorem vecc {C : Ctx} {c : Code} {Q : Exit → St → Prop} {t : Nat → SV} {h : Heap} {nx : Nat} (s L' : Nat) (g : Nat → Nat → D) {k L : Nat} {f : Nat → Nat → D} (hs : (t s).hd = some (.d (.vec k L f))) (hl : L = L') (hf : ∀ i c, i < L → c < k → f i c = g i c) (kk : W C c Q ⟨upd t s (.d (.vec k L' g)), h, nx⟩) : W C c Q ⟨t, h, nx⟩ := by
  subst hl
  exact slotc s _ hs (fun M ρ v hv => hv.vec_congr hf) kk
/-- No elements. -/
theorem nilv {C : Ctx} {c : Code} {Q : Exit → St → Prop} {t : Nat → SV} {h : Heap} {nx : Nat} (s k : Nat) (g : Nat → Nat → D) (hs : (t s).hd = some (.d .nils)) (kk : W C c Q ⟨upd t s (.d (.vec k 0 g)), h, nx⟩) : W C c Q ⟨t, h, nx⟩ :=
  slotc s _ hs (fun M ρ v hv => by cases hv with | d _ _ h => cases h with | nils a => exact .d _ _ (.vec0 _ _ _ _)) kk
end Go.Proofs.YtpdojmebloekgaaDoor.Nice
