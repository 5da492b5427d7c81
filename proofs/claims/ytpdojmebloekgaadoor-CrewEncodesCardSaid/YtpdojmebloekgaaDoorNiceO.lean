/- More rules: a literal laid still at once, empty slices in cells, loops of a few rounds, arguments told more weakly. -/
import Derived.Test.YtpdojmebloekgaaDoorNiceN
namespace Go.Proofs.YtpdojmebloekgaaDoor.Nice
open Go
set_option linter.unusedVariables false
set_option linter.unusedSimpArgs false

/-- A block of rows laid still. -/
theorem HR.still {M F : Imm} {ρ : Names} {h : Heap} {w : World} (hH : HR M F ρ h w) {n ty k L len : Nat} {f : Nat → Nat → D} (hn : h n = some (.rows ty k L f)) (hl : len ≤ L) {v : Value} (hv : VR M ρ (.sl n 0 len) v) :
    ∃ M', M.le M' ∧ HR M' F ρ (upd h n none) w ∧ VR M' ρ (.d (.vec k len f)) v := by
  cases hv with
  | sl0 _ _ x hx hR aa => exact ⟨M, Imm.le_refl _, hH.drop n, .d _ _ (.vec0 _ _ _ _)⟩
  | sl _ _ _ x hx hlR hR h0 =>
    obtain ⟨x', hx', hr⟩ := hH.live n _ hn
    rw [hx] at hx'; obtain rfl := Option.some.inj hx'
    rcases hr with ⟨h00, _⟩ | ⟨_, hM, hF, o, h3, h4⟩
    · omega
    cases o with
    | cells cur T fz =>
      obtain ⟨rfl, rfl, g1, g2, g3, g4⟩ := h4
      let M' : Imm := fun b => if b = x.b then some (.cells cur T (0, 0)) else M b
      have hle : M.le M' := by
        intro b o hb
        have : b ≠ x.b := by rintro rfl; rw [hM] at hb; cases hb
        simp [M', this, hb]
      refine ⟨M', hle, hH.stills hle (fun m b hm => ?_) ?_ ?_ (fun m b y hm hy q0 => ?_) (fun m S es hm b hb => ?_), .d _ _ ?_⟩
      · rw [upd_eq] at hm; split at hm
        · cases hm
        · exact hm
      · intro b o hb
        by_cases e : b = x.b
        · subst e; simp [M'] at hb; subst hb; exact h3
        · simp [M', e] at hb; exact hH.imm b o hb
      · intro b o hb
        have : b ≠ x.b := by rintro rfl; rw [hF] at hb; cases hb
        simp [M', this]; exact hH.dis b o hb
      · rw [upd_eq] at hm; split at hm
        · cases hm
        · next e =>
          obtain ⟨y', hy', hr⟩ := hH.live m b hm
          rw [hy] at hy'; obtain rfl := Option.some.inj hy'
          have : y.b ≠ x.b := fun hb => e (hH.sep m n y x (by rw [hm]; simp) (by rw [hn]; simp) hy hx q0 h0 hb)
          rcases hr with ⟨h00, _⟩ | ⟨_, q1, _⟩
          · omega
          · simp [M', this, q1]
      · rw [upd_eq] at hm; split at hm
        · cases hm
        · obtain ⟨_, _, _, g1, g2, _⟩ := hH.fam m S es hm
          have : b ≠ x.b := fun e => g2 n x (by rw [hn]; simp) hx h0 (e ▸ hb)
          simp [M', this, (g1 b hb).1]
      · subst g1
        have hget : ∀ i c, i < len → c < x.k → ∃ v, cur[i * x.k + c]? = some v ∧ DR M (f i c) v := fun i c hi hc => g4 i c (by omega) hc
        refine .vec x.k len f x.b (0 * x.k) _ cur T (0, 0) (fun i c => (cur[i * x.k + c]?).getD undef) (by simp [M']) (by omega) (fun i c hi hc => ?_) (fun i c hi hc => ?_)
        · obtain ⟨v, v1, _⟩ := hget i c hi hc
          rw [Nat.zero_mul, Nat.zero_add, v1]; rfl
        · obtain ⟨v, v1, v2⟩ := hget i c hi hc
          simp only [v1, Option.getD_some]; exact v2.mono hle
    | _ => exact h4.elim

/-- Cells that are data, seen as rows. -/
theorem HR.torows {M F : Imm} {ρ : Names} {h : Heap} {w : World} (hH : HR M F ρ h w) {n ty k : Nat} {xs : List SV} (hn : h n = some (.cells ty k xs)) (hk : 0 < k) (L : Nat) (f : Nat → Nat → D) (hl : L * k ≤ xs.length) (hf : ∀ i c, i < L → c < k → xs[i * k + c]? = some (.d (f i c))) :
    HR M F ρ (upd h n (some (.rows ty k L f))) w := by
  refine hH.swap n hn (fun x obj hb => ?_) (fun h => by cases h)
  cases obj with
  | cells cur T fz =>
    obtain ⟨h1, h2, h3, h4, h5, h6⟩ := hb
    refine ⟨h1, h2, h3, h4, ?_, fun i c hi hc => ?_⟩
    · have : L * k ≤ x.R * k := by omega
      exact Nat.le_of_mul_le_mul_right this hk
    · obtain ⟨v, k1, k2⟩ := h6 _ _ (hf i c hi hc)
      exact ⟨v, k1, by cases k2 with | d _ _ h => exact h⟩
  | _ => exact hb.elim

/-- A slice that an operation has made, laid still at once. -/
theorem ok_freeze {C : Ctx} {o : Oper} {nm : Nat} {v : Operand → SV} {bs : List (Nat × Blk)} {e k len : Nat} {xs : List SV} (hok : OpOK C o nm v bs (fun x w => x = .sl nm 0 len ∧ w = [(nm, some (.cells e k xs))])) (f : Nat → Nat → D) (hk : 0 < k) (hl : len * k ≤ xs.length)
    (hf : ∀ i c, i < len → c < k → xs[i * k + c]? = some (.d (f i c))) : OpOK C o nm v bs (fun x w => x = .d (.vec k len f) ∧ w = []) := by
  intro M F ρ a h w hv hG hH hbs hfr K Q hK
  refine hok M F ρ a h w hv hG hH hbs hfr K Q ?_
  rintro M' ρ' u wr u' w' hM hρ hn ⟨rfl, rfl⟩ hv' hH' hS
  have hnone : h nm = none := by
    cases e : h nm with
    | none => rfl
    | some b =>
      obtain ⟨x, hx, _⟩ := hH.live nm b e
      rw [hfr nm (Nat.le_refl _) (by omega)] at hx; cases hx
  have h1 := HR.torows hH' (n := nm) (ty := e) (k := k) (xs := xs) (by show upd h nm _ nm = _; exact upd_same _ _ _) hk len f hl hf
  obtain ⟨M2, g1, g2, g3⟩ := HR.still h1 (n := nm) (len := len) (upd_same _ _ _) (Nat.le_refl _) hv'
  refine hK M2 ρ' _ [] u' w' (Imm.le_trans hM g1) hρ hn ⟨rfl, rfl⟩ g3 ?_ hS
  have : upd (upd (wrH h [(nm, some (Blk.cells e k xs))]) nm (some (Blk.rows e k len f))) nm none = wrH h [] := by
    funext m
    simp only [wrH, upd_eq]
    split
    · next e => subst e; exact hnone.symm
    · rfl
  rw [← this]; exact g2

section
variable {C : Ctx} {ops : List Oper} {i : Nat} {o : Oper} {l : List Oper} {t : Nat → SV} {h h' : Heap} {nx : Nat} {K : St → Prop} {acc : List FP}
/-- A slice literal of data. -/
theorem sLit {ty e len : Nat} {parts : Array (Nat × Operand)} {xs : List SV} (k : Nat) (f : Nat → Nat → D) (d nm i' : Nat) (hi : i + 1 = i') (hnm : nx + 8 * i = nm) (hg : o.guard = none) (hdst : o.dst = some d) (hd : Nat.blt d C.sz = true) (ho : o.op = .buildSlice ty len parts)
    (he : sliceLitS C.P nm ty len (svParts (opv C t) parts.toList) = some (True, [], .sl nm 0 len, [(nm, some (.cells e k xs))])) (hk : Nat.blt 0 k = true) (hl : Nat.ble (len * k) xs.length = true) (hf : ∀ i c, i < len → c < k → xs[i * k + c]? = some (.d (f i c)))
    (kk : wops C ops i' l ⟨upd t d (.d (.vec k len f)), h, nx⟩ none K) : wops C ops i (o :: l) ⟨t, h, nx⟩ none K := by
  subst hi; subst hnm
  obtain ⟨h1, h2, h3⟩ := sliceLit_ok (C := C) (nm := nx + 8 * i) (v := opv C t) (h := h) ho he trivial
  refine st_ok (σ := ⟨t, h, nx⟩) (bs := []) (wr := []) hg (by unfold dstOK; rw [hdst]; exact hd) (ok_freeze h1 f (by simpa using hk) (Nat.le_of_ble_eq_true hl) hf) (fun p hp => by cases hp) rfl ?_
  unfold St.app; rw [hdst]; exact kk
theorem dLit {ty e len : Nat} {parts : Array (Nat × Operand)} {xs : List SV} (k : Nat) (f : Nat → Nat → D) (d nm i' : Nat) (hi : i + 1 = i') (hnm : nx + 8 * i = nm) (hg : o.guard = none) (hdst : o.dst = some d) (hd : Nat.blt d C.sz = true) (ho : o.op = .buildSlice ty len parts)
    (he : sliceLitS C.P nm ty len (svParts (opv C t) parts.toList) = some (True, [], .sl nm 0 len, [(nm, some (.cells e k xs))])) (hk : Nat.blt 0 k = true) (hl : Nat.ble (len * k) xs.length = true) (hf : ∀ i c, i < len → c < k → xs[i * k + c]? = some (.d (f i c)))
    (kk : wops C ops i' l ⟨upd t d (.d (.vec k len f)), h, nx⟩ (some (acc ++ [([], [])])) K) : wops C ops i (o :: l) ⟨t, h, nx⟩ (some acc) K := by
  subst hi; subst hnm
  obtain ⟨h1, h2, h3⟩ := sliceLit_ok (C := C) (nm := nx + 8 * i) (v := opv C t) (h := h) ho he trivial
  refine st_ok (σ := ⟨t, h, nx⟩) (bs := []) (wr := []) hg (by unfold dstOK; rw [hdst]; exact hd) (ok_freeze h1 f (by simpa using hk) (Nat.le_of_ble_eq_true hl) hf) (fun p hp => by cases hp) rfl ?_
  unfold St.app; rw [hdst]; exact kk
end

theorem dMap {C : Ctx} {ops : List Oper} {i : Nat} {o : Oper} {l : List Oper} {t : Nat → SV} {h : Heap} {nx : Nat} {K : St → Prop} {acc : List FP} {ty kt el : TypeId} {y z q : Operand} {kind : TypeDesc} {n : Nat} {es : List (Value × D)} {key : Value} {x : D} {r : Option D} (hr : mfind kind key es = some r) (nm i' : Nat) (hi : i + 1 = i') (hnm : nx + 8 * i = nm) (hg : o.guard = none) (hdst : o.dst = none)
    (ho : o.op = .mapUpdate ty y z q) (ht : C.P.underlying ty = some (.map kt el)) (hk : C.P.underlying kt = some kind) (hp : plainKey kind = true) (hy : opv C t y = .map n) (hz : opv C t z = .d (.val key)) (hq : opv C t q = .d x) (hn : h n = some (.map es))
    (k : wops C ops i' l ⟨t, upd h n (some (.map (mset kind key x es))), nx⟩ (some (acc ++ [([n], [n])])) K) : wops C ops i (o :: l) ⟨t, h, nx⟩ (some acc) K := by
  subst hi; subst hnm
  refine st_ok (σ := ⟨t, h, nx⟩) hg (by unfold dstOK; rw [hdst]) (mapUpdate_ok ho ht hk hp hy hz hq hr) (fun p hp => by rw [List.mem_singleton.1 hp]; exact hn) (by simp [keysIn]) ?_
  unfold St.app; rw [hdst]; exact k

/-- Strings put together. -/
theorem sCat {C : Ctx} {ops : List Oper} {i : Nat} {o : Oper} {l : List Oper} {t : Nat → SV} {h : Heap} {nx : Nat} {K : St → Prop} {ty ty' : TypeId} {y z : Operand} {a b : ByteArray} (d nm i' : Nat) (hi : i + 1 = i') (hnm : nx + 8 * i = nm) (hg : o.guard = none) (hdst : o.dst = some d) (hd : Nat.blt d C.sz = true) (ho : o.op = .binOp .add ty y z ty')
    (hy : (opv C t y).hd = some (.d (.val (.string a)))) (hz : (opv C t z).hd = some (.d (.val (.string b)))) (hb : a.size + b.size ≤ 9223372036854775807) (k : wops C ops i' l ⟨upd t d (.d (.val (.string (a ++ b)))), h, nx⟩ none K) : wops C ops i (o :: l) ⟨t, h, nx⟩ none K := by
  subst hi; subst hnm
  have hs : strAddS .add (opv C t y) (opv C t z) = some (a.size + b.size ≤ 9223372036854775807, [], .d (.val (.string (a ++ b))), []) := by
    rw [SV.hd_eq hy, SV.hd_eq hz]; rfl
  obtain ⟨h1, h2, h3⟩ := strAdd_ok (C := C) (nm := nx + 8 * i) (h := h) (v := opv C t) ho hs hb
  refine st_ok (σ := ⟨t, h, nx⟩) hg (by unfold dstOK; rw [hdst]; exact hd) h1 h2 h3 ?_
  unfold St.app; rw [hdst]; exact k

/-- An empty slice in a cell gets a name. -/
theorem cghostly {C : Ctx} {c : Code} {Q : Exit → St → Prop} {t : Nat → SV} {h : Heap} {nx : Nat} (n j ty k : Nat) (f : Nat → Nat → D) {ty' k' : Nat} {xs : List SV} (hn : h n = some (.cells ty' k' xs)) (hj : xs[j]? = some (.d .nils)) (hne : Nat.beq n nx = false)
    (kk : W C c Q ⟨t, upd (upd h nx (some (.rows ty k 0 f))) n (some (.cells ty' k' (xs.set j (.sl nx 0 0)))), nx + 8⟩) : W C c Q ⟨t, h, nx⟩ := by
  intro M F pin ρ a w hsr
  have hfr : ∀ m, nx ≤ m → m < nx + 8 → ρ m = none := fun m h1 _ => hsr.fr m h1
  obtain ⟨ρ', k1, k2, k3, k4⟩ := hsr.hr.ghost hfr ty k f
  have hnn : n ≠ nx := fun e => by subst e; simp at hne
  have hn' : upd h nx (some (.rows ty k 0 f)) n = some (.cells ty' k' xs) := by rw [upd_other _ _ _ _ hnn]; exact hn
  have k5 := k4.swap n hn' (b' := .cells ty' k' (xs.set j (.sl nx 0 0))) (fun x obj hb => ?_) (fun h => by cases h)
  · refine kk M F pin ρ' a w ⟨⟨fun m => (hsr.tm m).mono (Imm.le_refl _) k1, hsr.sz, hsr.df, k5, Names.le_trans hsr.pn k1, hsr.pm, hsr.gl⟩, fun m hm => ?_⟩
    have hm' : nx + 8 ≤ m := hm
    rw [k2 m (.inr hm')]; exact hsr.fr m (by show nx ≤ m; omega)
  · cases obj with
    | cells cur T fz =>
      obtain ⟨h1, h2, h3, h4, h5, h6⟩ := hb
      refine ⟨h1, h2, h3, h4, by rw [List.length_set]; exact h5, fun q s hs => ?_⟩
      rw [List.getElem?_set] at hs
      split at hs
      · next e =>
        subst e
        split at hs
        · cases hs
          obtain ⟨v, v1, v2⟩ := h6 j _ hj
          refine ⟨v, v1, ?_⟩
          cases v2 with | d _ _ hd => cases hd with | nils aa => exact .sl0 nx 0 _ k3 rfl aa
        · cases hs
      · exact h6 q s hs
    | _ => exact hb.elim

/-- A loop of at most so many rounds. -/
def Unr (C : Ctx) (c : Code) (Q : Exit → St → Prop) : Nat → St → Prop
  | 0, _ => False
  | n + 1, σ => W C c (thenQ (Unr C c Q n) Q) σ
theorem W_unroll {C : Ctx} {c : Code} {Q : Exit → St → Prop} {σ : St} (n : Nat) (h : Unr C c Q n σ) : W C (.loop c) Q σ := by
  refine W_loop0 (fun n σ => Unr C c Q n σ) n h ?_
  intro n σ hn
  cases n with
  | zero => exact hn.elim
  | succ n =>
    refine W_mono hn ?_
    intro e σ' hq
    cases e with
    | normal => exact ⟨n, by omega, hq⟩
    | _ => exact hq
theorem unr {C : Ctx} {c : Code} {Q : Exit → St → Prop} {n : Nat} {σ : St} (h : W C c (thenQ (Unr C c Q n) Q) σ) : Unr C c Q (n + 1) σ := h

/-- A contract for arguments that say more. -/
theorem Spec.args {P : Program} {G : Nat → SV} {f : FuncId} {args args' : List SV} {hin : List Blk} {post : SV → List (Option Blk) → Prop} (h : Spec P G f args hin post) (hl : args.length = args'.length)
    (hle : ∀ M ρ (i : Nat) (x' : SV), args'[i]? = some x' → ∃ x, args[i]? = some x ∧ ∀ u, VR M ρ x' u → VR M ρ x u) : Spec P G f args' hin post := by
  intro M F ρ vs w h1 h2 h3 h4 h5
  refine h M F ρ vs w h1 h2 (by rw [h3, hl]) (fun i x hx => ?_) h5
  have hi : i < args'.length := by rw [← hl]; exact (List.getElem?_eq_some_iff.1 hx).1
  obtain ⟨x', hx'⟩ : ∃ x', args'[i]? = some x' := ⟨_, List.getElem?_eq_getElem hi⟩
  obtain ⟨y, hy, hv⟩ := hle M ρ i x' hx'
  rw [hx] at hy; cases hy
  obtain ⟨u, hu, hr⟩ := h4 i x' hx'
  exact ⟨u, hu, hv u hr⟩
theorem VR.nil_vec {M : Imm} {ρ : Names} {k : Nat} {f : Nat → Nat → D} {u : Value} (h : VR M ρ (.d .nils) u) : VR M ρ (.d (.vec k 0 f)) u := by
  cases h with | d _ _ h => cases h with | nils a => exact .d _ _ (.vec0 _ _ _ _)
end Go.Proofs.YtpdojmebloekgaaDoor.Nice
