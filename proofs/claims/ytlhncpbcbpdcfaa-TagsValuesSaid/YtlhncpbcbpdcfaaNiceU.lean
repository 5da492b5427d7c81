/- Families: an entry's blocks taken out under names of the call's own, and shut away. -/
import Derived.Test.YtlhncpbcbpdcfaaNiceT
namespace Go.Proofs.Ytlhncpbcbpdcfaa.Nice
open Go
set_option linter.unusedVariables false
set_option linter.unusedSimpArgs false

/-- A map without entries is a family. -/
theorem tofam {C : Ctx} {c : Code} {Q : Exit → St → Prop} {t : Nat → SV} {h : Heap} {nx : Nat} (n : Nat) (hn : h n = some (.map [])) (kk : W C c Q ⟨t, upd h n (some (.fam [] ⟨[], []⟩)), nx⟩) : W C c Q ⟨t, h, nx⟩ := by
  intro M F pin ρ a w hsr
  have hH : HR M F ρ h w := hsr.hr
  have ne : ∀ m, upd h n (some (.fam [] ⟨[], []⟩)) m ≠ none → h m ≠ none := by
    intro m hm e
    rw [upd_eq] at hm; split at hm
    · next e2 => subst e2; rw [hn] at e; cases e
    · exact hm e
  refine kk M F pin ρ a w ⟨⟨hsr.tm, hsr.sz, hsr.df, ⟨hH.imm, hH.frm, hH.dis, fun m b hm => ?_, fun p q y z hp hq => hH.sep p q y z (ne p hp) (ne q hq), fun m S es hm => ?_⟩, hsr.pn, hsr.pm, hsr.gl⟩, hsr.fr⟩
  · replace hm : upd h n (some (.fam [] ⟨[], []⟩)) m = some b := hm
    rw [upd_eq] at hm
    split at hm
    · next e =>
      subst e; cases hm
      obtain ⟨x, hx, hr⟩ := hH.live m _ hn
      refine ⟨x, hx, ?_⟩
      rcases hr with ⟨_, hg⟩ | ⟨h0, h1, h2, o, h3, h4⟩
      · simp [Blk.ghost] at hg
      · refine .inr ⟨h0, h1, h2, o, h3, ?_⟩
        cases o with
        | map ents cl => exact ⟨h4.1, fun j e he => by simp at he, fun p hp => by cases hp⟩
        | _ => exact h4.elim
    · exact hH.live m b hm
  · replace hm : upd h n (some (.fam [] ⟨[], []⟩)) m = some (.fam S es) := hm
    rw [upd_eq] at hm
    split at hm
    · next e =>
      subst e; cases hm
      obtain ⟨x, hx, hr⟩ := hH.live m _ hn
      rcases hr with ⟨_, hg⟩ | ⟨h0, _⟩
      · simp [Blk.ghost] at hg
      · exact ⟨x, hx, h0, fun b hb => (by cases hb), fun _ _ _ _ _ hb => (by cases hb), fun _ _ _ _ _ b hb => (by cases hb), fun _ => fun _ => none, fun j k s bl hj => by have := hj.1; simp at this, fun j j' k k' s s' bl bl' i i' c c' z z' hj => by have := hj.1; simp at this⟩
    · next e =>
      obtain ⟨x, hx, g0, g1, g2, g3, g4⟩ := hH.fam m S es hm
      refine ⟨x, hx, g0, g1, fun p y hp => g2 p y (ne p hp), fun p S2 es2 hp hq b hb => ?_, g4⟩
      replace hq : upd h n (some (.fam [] ⟨[], []⟩)) p = some (.fam S2 es2) := hq
      rw [upd_eq] at hq
      split at hq
      · cases hq; simp
      · exact g3 p S2 es2 hp hq b hb

theorem bl_get {bl : List InB} {π : List Nat} {i : Nat} {c : InB} (h : bl[i]? = some c) : (bl.map fun c => some c.blk)[i]? = some (some c.blk) := by
  rw [List.getElem?_map, h]; rfl

def inUnder (p : Nat) (bl : List InB) : Bool := bl.all fun c => c.blk.under p

/-- An entry's blocks get names of the call's own. -/
theorem famOpen {C : Ctx} {c : Code} {Q : Exit → St → Prop} {t : Nat → SV} {h : Heap} {nx : Nat} (n j : Nat) {S : List Nat} {es : List (Value × SV × List InB)} {k : Value} {s : SV} {bl : List InB} (hn : h n = some (.fam S ⟨es, []⟩)) (hj : es[j]? = some (k, s, bl)) (hne : Nat.blt n nx = true)
    (side : (Nat.ble bl.length 8 && (s.under bl.length && inUnder bl.length bl)) = true)
    (kk : ∀ S', W C c Q ⟨t, wrH (upd h n (some (.fam S' ⟨es, [(j, ren (newNames nx bl.length) s)]⟩))) (wrOf (newNames nx bl.length) (newNames nx bl.length) (bl.map fun c => some c.blk)), nx + 8⟩) : W C c Q ⟨t, h, nx⟩ := by
  intro M F pin ρ a w hsr
  have hH : HR M F ρ h w := hsr.hr
  simp only [Bool.and_eq_true] at side
  obtain ⟨s1, s2, s3⟩ := side
  have s1 := Nat.le_of_ble_eq_true s1
  have hnlt : n < nx := by simpa using hne
  generalize hp : bl.length = p at s1 s2 s3 kk
  obtain ⟨x, hx, g0, g1, g2, g3, ρs, r1, r2⟩ := hH.fam n S _ hn
  obtain ⟨_, hMx, hFx, ents, cl, o1, o2, o3, _, o5⟩ := hH.famObj hn hx
  obtain ⟨ocl, o4⟩ := hH.famBorn hn hx o1
  have haj : (⟨es, []⟩ : Fam).at j k s bl := ⟨hj, fun p hp => by cases hp⟩
  obtain ⟨⟨ents', cl', y, f1, f2, f3⟩, f4⟩ := r1 j k s bl haj
  rw [o1] at f1; cases f1
  -- the opened blocks
  let isO : Nat → Prop := fun b => ∃ i c z, bl[i]? = some c ∧ ρs j i = some z ∧ 0 < z.R ∧ z.b = b
  have dec : ∀ b, Decidable (isO b) := fun b => Classical.propDecidable _
  let S' := S.filter fun b => !(@decide (isO b) (dec b))
  have hS' : ∀ b, b ∈ S' ↔ b ∈ S ∧ ¬ isO b := by
    intro b
    simp only [S', List.mem_filter, Bool.not_eq_true', decide_eq_false_iff_not]
  let ρ' : Names := fun m => if nx ≤ m ∧ m < nx + p then ρs j (m - nx) else ρ m
  have hρ' : ∀ m, ρ' m = if nx ≤ m ∧ m < nx + p then ρs j (m - nx) else ρ m := fun m => rfl
  have hle : ρ.le ρ' := by
    intro m z hz
    rw [hρ', if_neg]
    · exact hz
    · rintro ⟨h1, _⟩
      rw [hsr.fr m h1] at hz; cases hz
  have hπ : ∀ i, i < p → ρ' ((newNames nx p).getD i 0) = ρs j i := by
    intro i hi
    rw [List.getD_eq_getElem?_getD, newNames_get p nx i hi]
    show ρ' (nx + i) = _
    rw [hρ', if_pos ⟨by omega, by omega⟩]; congr 1; omega
  have hpl : (newNames nx p).length = (bl.map fun c => some c.blk).length := by rw [newNames_length, List.length_map, hp]
  have hnd : ∀ i i' m : Nat, (newNames nx p)[i]? = some m → (newNames nx p)[i']? = some m → i = i' := by
    intro i i' m h1 h2
    have a1 : i < p := by have := (List.getElem?_eq_some_iff.1 h1).1; rw [newNames_length] at this; exact this
    have a2 : i' < p := by have := (List.getElem?_eq_some_iff.1 h2).1; rw [newNames_length] at this; exact this
    rw [newNames_get p nx i a1] at h1; rw [newNames_get p nx i' a2] at h2
    have := Option.some.inj h1; have := Option.some.inj h2; omega
  let es' : Fam := ⟨es, [(j, ren (newNames nx p) s)]⟩
  obtain ⟨hwr1, hwr2⟩ := wrH_wrOf (π := newNames nx p) (newNames nx p) (bl.map fun c => some c.blk) (upd h n (some (.fam S' es'))) hpl hnd
  have mem : ∀ m, m ∈ newNames nx p ↔ nx ≤ m ∧ m < nx + p := by
    intro m
    constructor
    · intro hm
      obtain ⟨i, hi⟩ := List.mem_iff_getElem?.1 hm
      have a1 : i < p := by have := (List.getElem?_eq_some_iff.1 hi).1; rw [newNames_length] at this; exact this
      rw [newNames_get p nx i a1] at hi
      have := Option.some.inj hi; omega
    · rintro ⟨h1, h2⟩
      refine List.mem_iff_getElem?.2 ⟨m - nx, ?_⟩
      rw [newNames_get p nx _ (by omega)]; congr 1; omega
  -- what stands at a name
  have new : ∀ m, nx ≤ m ∧ m < nx + p → ∃ i c z, m = nx + i ∧ i < p ∧ bl[i]? = some c ∧ ρs j i = some z ∧ ρ' m = some z ∧ wrH (upd h n (some (.fam S' es'))) (wrOf (newNames nx p) (newNames nx p) (bl.map fun c => some c.blk)) m = some (renB (newNames nx p) c.blk) ∧
      ((z.R = 0 ∧ c.blk.ghost = true) ∨ (0 < z.R ∧ z.b ∈ S ∧ ∃ o, w.heap[z.b]? = some o ∧ BR M (ρs j) z c.blk o)) := by
    rintro m ⟨h1, h2⟩
    have hi : m - nx < bl.length := by omega
    obtain ⟨z, z1, z2⟩ := f4 (m - nx) _ (List.getElem?_eq_getElem hi)
    refine ⟨m - nx, _, z, by omega, by omega, List.getElem?_eq_getElem hi, z1, by rw [hρ', if_pos ⟨h1, h2⟩]; exact z1, ?_, z2⟩
    have := hwr1 (m - nx) m _ (by rw [newNames_get p nx _ (by omega)]; congr 1; omega) (bl_get (π := []) (List.getElem?_eq_getElem hi))
    rw [this]; rfl
  have old : ∀ m, ¬ (nx ≤ m ∧ m < nx + p) → wrH (upd h n (some (.fam S' es'))) (wrOf (newNames nx p) (newNames nx p) (bl.map fun c => some c.blk)) m = (if m = n then some (.fam S' es') else h m) ∧ ρ' m = ρ m := by
    intro m hm
    rw [hwr2 m (fun e => hm ((mem m).1 e)), upd_eq]
    exact ⟨rfl, by rw [hρ', if_neg hm]⟩
  have nold : ∀ m, ¬ (nx ≤ m ∧ m < nx + p) → wrH (upd h n (some (.fam S' es'))) (wrOf (newNames nx p) (newNames nx p) (bl.map fun c => some c.blk)) m ≠ none → h m ≠ none := by
    intro m hm hne e
    rw [(old m hm).1] at hne
    split at hne
    · next e2 => subst e2; rw [hn] at e; cases e
    · exact hne e
  refine kk S' M F pin ρ' a w ⟨⟨fun q => (hsr.tm q).mono (Imm.le_refl _) hle, hsr.sz, hsr.df, ⟨hH.imm, hH.frm, hH.dis, fun m b hm => ?_, fun q q' z z' hq hq' hz hz' h0z h0z' hb => ?_, fun m S2 es2 hm => ?_⟩, Names.le_trans hsr.pn hle, hsr.pm, hsr.gl⟩, fun m hm => ?_⟩
  · -- live
    replace hm : wrH (upd h n (some (.fam S' es'))) (wrOf (newNames nx p) (newNames nx p) (bl.map fun c => some c.blk)) m = some b := hm
    by_cases e : nx ≤ m ∧ m < nx + p
    · obtain ⟨i, c, z, rfl, hi, hc, z1, z2, z3, z4⟩ := new m e
      rw [z3] at hm; cases hm
      have huc : c.blk.under p = true := (List.all_eq_true.1 s3) c (List.mem_of_getElem? hc)
      refine ⟨z, z2, ?_⟩
      rcases z4 with ⟨z5, z6⟩ | ⟨z5, z6, o, z7, z8⟩
      · exact .inl ⟨z5, by rw [ghost_renB]; exact z6⟩
      · exact .inr ⟨z5, (g1 _ z6).1, (g1 _ z6).2.1, o, z7, z8.fwd hπ huc⟩
    · rw [(old m e).1] at hm
      split at hm
      · next e2 =>
        subst e2; cases hm
        refine ⟨x, hle m x hx, .inr ⟨g0, hMx, hFx, _, o1, ⟨o2, ocl⟩, o4, fun q hq => ?_⟩⟩
        rw [List.mem_singleton.1 hq]
        exact ⟨y, f2, f3.fwd hπ s2⟩
      · next e2 =>
        obtain ⟨z, hz, hr⟩ := hH.live m b hm
        refine ⟨z, hle m z hz, ?_⟩
        rcases hr with hr | ⟨h0, h1, h2, o, h3, h4⟩
        · exact .inl hr
        · exact .inr ⟨h0, h1, h2, o, h3, h4.mono (Imm.le_refl _) hle⟩
  · -- apart
    by_cases e : nx ≤ q ∧ q < nx + p <;> by_cases e' : nx ≤ q' ∧ q' < nx + p
    · obtain ⟨i, c, z1, rfl, hi, hc, k1, k2, _, _⟩ := new q e
      obtain ⟨i', c', z2, rfl, hi', hc', k1', k2', _, _⟩ := new q' e'
      rw [hz] at k2; obtain rfl := Option.some.inj k2
      rw [hz'] at k2'; obtain rfl := Option.some.inj k2'
      have := (r2 j j k k s s bl bl i i' c c' _ _ haj haj hc hc' k1 k1' h0z h0z' hb).2
      omega
    · obtain ⟨i, c, z1, rfl, hi, hc, k1, k2, _, z4⟩ := new q e
      rw [hz] at k2; obtain rfl := Option.some.inj k2
      rcases z4 with ⟨z5, _⟩ | ⟨_, z6, _⟩
      · omega
      · rw [(old q' e').2] at hz'
        exact absurd (hb ▸ z6) (g2 q' z' (nold q' e' hq') hz' h0z')
    · obtain ⟨i, c, z1, rfl, hi, hc, k1, k2, _, z4⟩ := new q' e'
      rw [hz'] at k2; obtain rfl := Option.some.inj k2
      rcases z4 with ⟨z5, _⟩ | ⟨_, z6, _⟩
      · omega
      · rw [(old q e).2] at hz
        exact absurd (hb.symm ▸ z6) (g2 q z (nold q e hq) hz h0z)
    · rw [(old q e).2] at hz; rw [(old q' e').2] at hz'
      exact hH.sep q q' z z' (nold q e hq) (nold q' e' hq') hz hz' h0z h0z' hb
  · -- families
    replace hm : wrH (upd h n (some (.fam S' es'))) (wrOf (newNames nx p) (newNames nx p) (bl.map fun c => some c.blk)) m = some (.fam S2 es2) := hm
    have notfam : ∀ m S es, nx ≤ m ∧ m < nx + p → wrH (upd h n (some (.fam S' es'))) (wrOf (newNames nx p) (newNames nx p) (bl.map fun c => some c.blk)) m ≠ some (.fam S es) := by
      intro m S es e he
      obtain ⟨i, c, z, rfl, hi, hc, z1, z2, z3, z4⟩ := new m e
      rw [z3] at he
      cases c <;> simp [InB.blk, renB] at he
    by_cases e : nx ≤ m ∧ m < nx + p
    · exact absurd hm (notfam m _ _ e)
    rw [(old m e).1] at hm
    have seen : ∀ q z, wrH (upd h n (some (.fam S' es'))) (wrOf (newNames nx p) (newNames nx p) (bl.map fun c => some c.blk)) q ≠ none → ρ' q = some z → 0 < z.R → (h q ≠ none ∧ ρ q = some z) ∨ (z.b ∈ S ∧ isO z.b) := by
      intro q z hq hz h0z
      by_cases e : nx ≤ q ∧ q < nx + p
      · obtain ⟨i, c, z1, rfl, hi, hc, k1, k2, _, z4⟩ := new q e
        rw [hz] at k2; obtain rfl := Option.some.inj k2
        rcases z4 with ⟨z5, _⟩ | ⟨_, z6, _⟩
        · omega
        · exact .inr ⟨z6, i, c, z, hc, k1, h0z, rfl⟩
      · rw [(old q e).2] at hz
        exact .inl ⟨nold q e hq, hz⟩
    split at hm
    · next e2 =>
      subst e2; cases hm
      refine ⟨x, hle m x hx, g0, fun b hb => g1 b ((hS' b).1 hb).1, fun q z hq hz h0z hb => ?_, fun q S3 es3 hqm hq b hb => ?_, ρs, fun j2 k2 s2' bl2 hj2 => ?_, ?_⟩
      · rcases seen q z hq hz h0z with ⟨k1, k2⟩ | ⟨_, k2⟩
        · exact g2 q z k1 k2 h0z ((hS' _).1 hb).1
        · exact ((hS' _).1 hb).2 k2
      · by_cases e3 : nx ≤ q ∧ q < nx + p
        · exact absurd hq (notfam q _ _ e3)
        · replace hq := (old q e3).1.symm.trans hq
          rw [if_neg hqm] at hq
          exact g3 q S3 es3 hqm hq b ((hS' b).1 hb).1
      · have hjj : j2 ≠ j := fun e => hj2.2 _ (List.mem_singleton.2 rfl) e.symm
        replace hj2 : (⟨es, []⟩ : Fam).at j2 k2 s2' bl2 := ⟨hj2.1, fun p hp => by cases hp⟩
        obtain ⟨q1, q2⟩ := r1 j2 k2 s2' bl2 hj2
        refine ⟨q1, fun i c hc => ?_⟩
        obtain ⟨z, z1, z2⟩ := q2 i c hc
        refine ⟨z, z1, ?_⟩
        rcases z2 with z2 | ⟨z2, z3, z4⟩
        · exact .inl z2
        · refine .inr ⟨z2, (hS' _).2 ⟨z3, ?_⟩, z4⟩
          rintro ⟨i', c', z', hc', hz', h0', hb'⟩
          exact hjj (r2 j j2 k k2 s s2' bl bl2 i' i c' c z' z haj hj2 hc' hc hz' z1 h0' z2 hb').1.symm
      · intro j2 j3 k2 k3 s2' s3' bl2 bl3 i i' c c' z z' hj2 hj3
        exact r2 j2 j3 k2 k3 s2' s3' bl2 bl3 i i' c c' z z' ⟨hj2.1, fun p hp => by cases hp⟩ ⟨hj3.1, fun p hp => by cases hp⟩
    · next e2 =>
      obtain ⟨x2, hx2, q0, q1, q2, q3, q4⟩ := hH.fam m S2 es2 hm
      refine ⟨x2, hle m x2 hx2, q0, q1, fun q z hq hz h0z => ?_, fun q S3 es3 hqm hq b hb => ?_, q4⟩
      · rcases seen q z hq hz h0z with ⟨k1, k2⟩ | ⟨k1, _⟩
        · exact q2 q z k1 k2 h0z
        · exact fun hb => g3 m S2 es2 e2 hm _ k1 hb
      · by_cases e3 : nx ≤ q ∧ q < nx + p
        · exact absurd hq (notfam q _ _ e3)
        · replace hq := (old q e3).1.symm.trans hq
          split at hq
          · next e4 =>
            subst e4; cases hq
            exact fun hb2 => g3 m S2 es2 e2 hm b ((hS' b).1 hb2).1 hb
          · exact q3 q S3 es3 hqm hq b hb
  · have hm : nx + 8 ≤ m := hm
    rw [hρ', if_neg (by omega)]
    exact hsr.fr m (by show nx ≤ m; omega)

/-- An entry's blocks are shut away. -/
theorem famShut {C : Ctx} {c : Code} {Q : Exit → St → Prop} {t : Nat → SV} {h : Heap} {nx : Nat} (n j : Nat) (π : List Nat) (s : SV) (bl : List InB) {S : List Nat} {es : List (Value × SV × List InB)} {k : Value} {e0 : SV × List InB} {u : SV} (hn : h n = some (.fam S ⟨es, [(j, u)]⟩)) (hj : es[j]? = some (k, e0)) (hu : u = ren π s)
    (hbs : bsHeap h (bsOf π π (bl.map InB.blk))) (side : (Nat.beq π.length bl.length && (nodupB (n :: π) && (s.under bl.length && inUnder bl.length bl))) = true)
    (kk : ∀ S', W C c Q ⟨t, wrH (upd h n (some (.fam S' ⟨es.set j (k, s, bl), []⟩))) (π.map fun m => (m, none)), nx⟩) : W C c Q ⟨t, h, nx⟩ := by
  intro M F pin ρ a w hsr
  have hH : HR M F ρ h w := hsr.hr
  simp only [Bool.and_eq_true] at side
  obtain ⟨s1, s0, s2, s3⟩ := side
  have s1 := Nat.eq_of_beq_eq_true s1
  obtain ⟨x, hx, g0, g1, g2, g3, ρs, r1, r2⟩ := hH.fam n S _ hn
  obtain ⟨_, hMx, hFx, ents, cl, o1, o2, o3, _, o5⟩ := hH.famObj hn hx
  obtain ⟨ocl, o4⟩ := hH.famBorn hn hx o1
  have hjl : j < es.length := (List.getElem?_eq_some_iff.1 hj).1
  have hnπ : n ∉ π := by
    intro hm
    obtain ⟨i, hi⟩ := List.mem_iff_getElem?.1 hm
    have := nodupB_inj s0 0 (i + 1) n rfl (by simpa using hi)
    omega
  have hndπ : ∀ i i' m : Nat, π[i]? = some m → π[i']? = some m → i = i' := by
    intro i i' m h1 h2
    have := nodupB_inj s0 (i + 1) (i' + 1) m (by simpa using h1) (by simpa using h2)
    omega
  have hlv : ∀ (i : Nat) (c : InB), bl[i]? = some c → ∃ m, π[i]? = some m ∧ h m = some (renB π c.blk) := by
    intro i c hc
    obtain ⟨m, hm, hb⟩ := bsOf_get (π := π) π (bl.map InB.blk) (by rw [s1, List.length_map]) i c.blk (by rw [List.getElem?_map, hc]; rfl)
    exact ⟨m, hm, bsHeap_mem hbs _ hb⟩
  have hπs : ∀ (i m : Nat), π[i]? = some m → ∃ c, bl[i]? = some c ∧ h m = some (renB π c.blk) ∧ ∃ z, ρ m = some z ∧ ((z.R = 0 ∧ c.blk.ghost = true) ∨ (0 < z.R ∧ M z.b = none ∧ F z.b = none ∧ ∃ o, w.heap[z.b]? = some o ∧ BR M ρ z (renB π c.blk) o)) := by
    intro i m hm
    have hi : i < bl.length := by rw [← s1]; exact (List.getElem?_eq_some_iff.1 hm).1
    obtain ⟨m', hm', hb⟩ := hlv i _ (List.getElem?_eq_getElem hi)
    rw [hm] at hm'; obtain rfl := Option.some.inj hm'
    obtain ⟨z, hz, hr⟩ := hH.live m _ hb
    refine ⟨_, List.getElem?_eq_getElem hi, hb, z, hz, ?_⟩
    rw [ghost_renB] at hr
    exact hr
  have hfamno : ∀ (i m : Nat) S es, π[i]? = some m → h m ≠ some (.fam S es) := by
    intro i m S es hm he
    obtain ⟨c, _, hb, _⟩ := hπs i m hm
    rw [hb] at he
    cases c <;> simp [InB.blk, renB] at he
  let S' := S ++ π.filterMap fun m => (ρ m).bind fun z => if 0 < z.R then some z.b else none
  have hS' : ∀ b, b ∈ S' ↔ b ∈ S ∨ ∃ m z, m ∈ π ∧ ρ m = some z ∧ 0 < z.R ∧ z.b = b := by
    intro b
    simp only [S', List.mem_append, List.mem_filterMap]
    constructor
    · rintro (h1 | ⟨m, hm, h2⟩)
      · exact .inl h1
      · right
        cases hz : ρ m with
        | none => rw [hz] at h2; cases h2
        | some z =>
          rw [hz] at h2
          simp only [Option.bind_some] at h2
          split at h2
          · next h0 => exact ⟨m, z, hm, hz, h0, Option.some.inj h2⟩
          · cases h2
    · rintro (h1 | ⟨m, z, hm, hz, h0, hb⟩)
      · exact .inl h1
      · exact .inr ⟨m, hm, by rw [hz]; simp [h0, hb]⟩
  have hwr : ∀ (l : List Nat) (h0 : Heap) (m : Nat), wrH h0 (l.map fun m => (m, none)) m = if m ∈ l then none else h0 m := by
    intro l
    induction l with
    | nil => intro h0 m; simp [wrH]
    | cons q r ih =>
      intro h0 m
      simp only [List.map_cons, wrH]
      rw [ih, upd_eq]
      by_cases e : m ∈ r
      · simp [e]
      · by_cases e2 : m = q
        · simp [e2]
        · simp [e, e2]
  let es' : Fam := ⟨es.set j (k, s, bl), []⟩
  have at' : ∀ m, wrH (upd h n (some (.fam S' es'))) (π.map fun m => (m, none)) m = if m ∈ π then none else if m = n then some (.fam S' es') else h m := by
    intro m; rw [hwr, upd_eq]
  have ne : ∀ m, wrH (upd h n (some (.fam S' es'))) (π.map fun m => (m, none)) m ≠ none → m ∉ π ∧ h m ≠ none := by
    intro m hm
    rw [at'] at hm
    by_cases e : m ∈ π
    · rw [if_pos e] at hm; exact absurd rfl hm
    · refine ⟨e, fun e2 => ?_⟩
      rw [if_neg e] at hm
      split at hm
      · next e3 => subst e3; rw [hn] at e2; cases e2
      · exact hm e2
  have ofS' : ∀ b, b ∈ S' → M b = none ∧ F b = none ∧ b < w.heap.size := by
    intro b hb
    rcases (hS' b).1 hb with hb | ⟨m, z, hm, hz, h0, rfl⟩
    · exact g1 b hb
    · obtain ⟨i, hi⟩ := List.mem_iff_getElem?.1 hm
      obtain ⟨c, _, _, z', hz', hr⟩ := hπs i m hi
      rw [hz] at hz'; obtain rfl := Option.some.inj hz'
      rcases hr with ⟨h00, _⟩ | ⟨_, h1, h2, o, h3, _⟩
      · omega
      · exact ⟨h1, h2, (Array.getElem?_eq_some_iff.1 h3).1⟩
  obtain ⟨ρs2, hρj, hρo⟩ : ∃ ρs2 : Nat → Names, ρs2 j = back π ρ ∧ ∀ q, q ≠ j → ρs2 q = ρs q := ⟨fun q => if q = j then back π ρ else ρs q, if_pos rfl, fun q hq => if_neg hq⟩
  refine kk S' M F pin ρ a w ⟨⟨hsr.tm, hsr.sz, hsr.df, ⟨hH.imm, hH.frm, hH.dis, fun m b hm => ?_, fun q q' z z' hq hq' => hH.sep q q' z z' (ne q hq).2 (ne q' hq').2, fun m S2 es2 hm => ?_⟩, hsr.pn, hsr.pm, hsr.gl⟩, hsr.fr⟩
  · replace hm := (at' m).symm.trans hm
    by_cases e : m ∈ π
    · rw [if_pos e] at hm; cases hm
    · rw [if_neg e] at hm
      split at hm
      · next e2 =>
        subst e2; cases hm
        refine ⟨x, hx, .inr ⟨g0, hMx, hFx, _, o1, ⟨by rw [List.length_set]; exact o2, ocl⟩, fun q e he => ?_, fun p hp => by cases hp⟩⟩
        rw [List.getElem?_set] at he
        split at he
        · next hq =>
          subst hq
          cases he
          obtain ⟨y', y1, y2⟩ := o4 j _ hj
          exact ⟨y', y1, y2⟩
        · exact o4 q e he
      · exact hH.live m b hm
  · replace hm := (at' m).symm.trans hm
    by_cases e : m ∈ π
    · rw [if_pos e] at hm; cases hm
    · rw [if_neg e] at hm
      split at hm
      · next e2 =>
        subst e2; cases hm
        refine ⟨x, hx, g0, ofS', fun q z hq hz h0z hb => ?_, fun q S3 es3 hqm hq b hb => ?_, ρs2, fun j2 k2 s2' bl2 hj2 => ?_, ?_⟩
        · obtain ⟨q1, q2⟩ := ne q hq
          rcases (hS' _).1 hb with hb | ⟨m', z', hm', hz', h0', hb⟩
          · exact g2 q z q2 hz h0z hb
          · obtain ⟨i, hi⟩ := List.mem_iff_getElem?.1 hm'
            obtain ⟨c, _, hb2, _⟩ := hπs i m' hi
            have := hH.sep q m' z z' q2 (by rw [hb2]; simp) hz hz' h0z h0' hb.symm
            subst this; exact q1 hm'
        · replace hq := (at' q).symm.trans hq
          by_cases e3 : q ∈ π
          · rw [if_pos e3] at hq; cases hq
          rw [if_neg e3, if_neg hqm] at hq
          rcases (hS' _).1 hb with hb | ⟨m', z', hm', hz', h0', rfl⟩
          · exact g3 q S3 es3 hqm hq b hb
          · obtain ⟨i, hi⟩ := List.mem_iff_getElem?.1 hm'
            obtain ⟨c, _, hb2, _⟩ := hπs i m' hi
            obtain ⟨_, _, _, _, t2, _⟩ := hH.fam q S3 es3 hq
            exact t2 m' z' (by rw [hb2]; simp) hz' h0'
        · by_cases hjj : j2 = j
          · subst hjj
            replace hj2 := hj2.1
            rw [List.getElem?_set_self hjl] at hj2
            cases hj2
            obtain ⟨y', y1, y3⟩ := o5 _ (List.mem_singleton.2 rfl)
            refine ⟨⟨ents, cl, y', o1, y1, ?_⟩, fun i c hc => ?_⟩
            · rw [hρj]
              exact y3.back s hu (by rw [s1]; exact s2)
            · obtain ⟨m', hm', _⟩ := hlv i c hc
              obtain ⟨c', hc', hb', z, hz, hr⟩ := hπs i m' hm'
              rw [hc] at hc'; obtain rfl := Option.some.inj hc'
              refine ⟨z, by rw [hρj]; simp [back, hm', hz], ?_⟩
              rcases hr with hr | ⟨h0, h1, h2, o, h3, h4⟩
              · exact .inl hr
              · refine .inr ⟨h0, (hS' _).2 (.inr ⟨m', z, List.mem_of_getElem? hm', hz, h0, rfl⟩), o, h3, ?_⟩
                rw [hρj]
                exact h4.back (by rw [s1]; exact (List.all_eq_true.1 s3) c (List.mem_of_getElem? hc))
          · replace hj2 := hj2.1
            rw [List.getElem?_set_ne (Ne.symm hjj)] at hj2
            obtain ⟨q1, q2⟩ := r1 j2 k2 s2' bl2 ⟨hj2, fun p hp => by cases List.mem_singleton.1 hp; exact Ne.symm hjj⟩
            refine ⟨?_, fun i c hc => ?_⟩
            · rw [hρo j2 hjj]; exact q1
            · obtain ⟨z, z1, z2⟩ := q2 i c hc
              refine ⟨z, by rw [hρo j2 hjj]; exact z1, ?_⟩
              rcases z2 with z2 | ⟨z2, z3, o, z4, z5⟩
              · exact .inl z2
              · exact .inr ⟨z2, (hS' _).2 (.inl z3), o, z4, by rw [hρo j2 hjj]; exact z5⟩
        · intro j2 j3 k2 k3 s2' s3' bl2 bl3 i i' c c' z z' hj2 hj3 hc hc' hz hz' h0 h0' hb
          have inS : ∀ (q : Nat) (k' : Value) (s' : SV) (bl' : List InB) (i : Nat) (c : InB) (z : Own), q ≠ j → es'.at q k' s' bl' → bl'[i]? = some c → ρs2 q i = some z → 0 < z.R → z.b ∈ S ∧ (⟨es, [(j, u)]⟩ : Fam).at q k' s' bl' ∧ ρs q i = some z := by
            intro q k' s' bl' i c z hq he hc hz h0
            replace he := he.1
            rw [List.getElem?_set_ne (Ne.symm hq)] at he
            replace he : (⟨es, [(j, u)]⟩ : Fam).at q k' s' bl' := ⟨he, fun p hp => by cases List.mem_singleton.1 hp; exact Ne.symm hq⟩
            rw [hρo q hq] at hz
            obtain ⟨_, q2⟩ := r1 q k' s' bl' he
            obtain ⟨z', z1, z2⟩ := q2 i c hc
            rw [hz] at z1; obtain rfl := Option.some.inj z1
            rcases z2 with ⟨z2, _⟩ | ⟨_, z3, _⟩
            · omega
            · exact ⟨z3, he, hz⟩
          have inπ : ∀ (i : Nat) (z : Own), back π ρ i = some z → ∃ m, π[i]? = some m ∧ ρ m = some z := by
            intro i z hz
            unfold back at hz
            cases e : π[i]? with
            | none => rw [e] at hz; cases hz
            | some m => rw [e] at hz; exact ⟨m, rfl, hz⟩
          by_cases e2 : j2 = j <;> by_cases e3 : j3 = j
          · rw [e2, hρj] at hz; rw [e3, hρj] at hz'
            obtain ⟨m1, a1, b1⟩ := inπ i z hz
            obtain ⟨m2, a2, b2⟩ := inπ i' z' hz'
            obtain ⟨_, _, c1, _⟩ := hπs i m1 a1
            obtain ⟨_, _, c2, _⟩ := hπs i' m2 a2
            have := hH.sep m1 m2 z z' (by rw [c1]; simp) (by rw [c2]; simp) b1 b2 h0 h0' hb
            subst this
            exact ⟨e2.trans e3.symm, hndπ i i' m1 a1 a2⟩
          · rw [e2, hρj] at hz
            obtain ⟨m1, a1, b1⟩ := inπ i z hz
            obtain ⟨_, _, c1, _⟩ := hπs i m1 a1
            obtain ⟨k1, _, _⟩ := inS j3 k3 s3' bl3 i' c' z' e3 hj3 hc' hz' h0'
            exact absurd (hb ▸ k1) (g2 m1 z (by rw [c1]; simp) b1 h0)
          · rw [e3, hρj] at hz'
            obtain ⟨m1, a1, b1⟩ := inπ i' z' hz'
            obtain ⟨_, _, c1, _⟩ := hπs i' m1 a1
            obtain ⟨k1, _, _⟩ := inS j2 k2 s2' bl2 i c z e2 hj2 hc hz h0
            exact absurd (hb.symm ▸ k1) (g2 m1 z' (by rw [c1]; simp) b1 h0')
          · obtain ⟨_, k1, l1⟩ := inS j2 k2 s2' bl2 i c z e2 hj2 hc hz h0
            obtain ⟨_, k2', l2⟩ := inS j3 k3 s3' bl3 i' c' z' e3 hj3 hc' hz' h0'
            exact r2 j2 j3 k2 k3 s2' s3' bl2 bl3 i i' c c' z z' k1 k2' hc hc' l1 l2 h0 h0' hb
      · next e2 =>
        obtain ⟨x2, hx2, q0, q1, q2, q3, q4⟩ := hH.fam m S2 es2 hm
        refine ⟨x2, hx2, q0, q1, fun q z hq hz h0z => q2 q z (ne q hq).2 hz h0z, fun q S3 es3 hqm hq b hb => ?_, q4⟩
        replace hq := (at' q).symm.trans hq
        by_cases e3 : q ∈ π
        · rw [if_pos e3] at hq; cases hq
        rw [if_neg e3] at hq
        split at hq
        · next e4 =>
          subst e4; cases hq
          intro hb2
          rcases (hS' _).1 hb2 with hb2 | ⟨m', z', hm', hz', h0', rfl⟩
          · exact g3 m S2 es2 e2 hm b hb2 hb
          · obtain ⟨i, hi⟩ := List.mem_iff_getElem?.1 hm'
            obtain ⟨c, _, hb3, _⟩ := hπs i m' hi
            exact q2 m' z' (by rw [hb3]; simp) hz' h0' hb
        · exact q3 q S3 es3 hqm hq b hb

/-- A family of rows, laid still: from now on a map of data. -/
theorem famFreeze {C : Ctx} {c : Code} {Q : Exit → St → Prop} {t : Nat → SV} {h : Heap} {nx : Nat} (n ty k : Nat) (L : List (Value × Nat × (Nat → Nat → D))) {S : List Nat} (hn : h n = some (.fam S ⟨L.map fun p => (p.1, .sl 0 0 p.2.1, [.rows ty k p.2.1 p.2.2]), []⟩))
    (kk : W C c Q ⟨t, upd h n (some (.map (L.map fun p => (p.1, .vec k p.2.1 p.2.2)))), nx⟩) : W C c Q ⟨t, h, nx⟩ := by
  intro M F pin ρ a w hsr
  have hH : HR M F ρ h w := hsr.hr
  obtain ⟨x, hx, g0, g1, g2, g3, ρs, r1, r2⟩ := hH.fam n S _ hn
  obtain ⟨_, hMx, hFx, ents, cl, o1, o2, o3, _, o5⟩ := hH.famObj hn hx
  obtain ⟨ocl, o4⟩ := hH.famBorn hn hx o1
  simp only [List.length_map] at o2
  let M' : Imm := fun b => if b ∈ S then w.heap[b]? else M b
  have hM' : ∀ b, M' b = if b ∈ S then w.heap[b]? else M b := fun b => rfl
  have hle : M.le M' := by
    intro b o hb
    rw [hM', if_neg]
    · exact hb
    · intro e; rw [(g1 b e).1] at hb; cases hb
  have ne : ∀ m, upd h n (some (.map (L.map fun p => (p.1, .vec k p.2.1 p.2.2)))) m ≠ none → h m ≠ none := by
    intro m hm e
    rw [upd_eq] at hm; split at hm
    · next e2 => subst e2; rw [hn] at e; cases e
    · exact hm e
  have nS : ∀ m z, h m ≠ none → ρ m = some z → 0 < z.R → M' z.b = M z.b := by
    intro m z hm hz h0
    rw [hM', if_neg (g2 m z hm hz h0)]
  have hHR : HR M' F ρ (upd h n (some (.map (L.map fun p => (p.1, .vec k p.2.1 p.2.2))))) w := by
    refine ⟨fun b o hb => ?_, hH.frm, fun b o hb => ?_, fun m b hm => ?_, fun q q' z z' hq hq' => hH.sep q q' z z' (ne q hq) (ne q' hq'), fun m S2 es2 hm => ?_⟩
    · rw [hM'] at hb
      split at hb
      · exact hb
      · exact hH.imm b o hb
    · rw [hM', if_neg]
      · exact hH.dis b o hb
      · intro e; rw [(g1 b e).2.1] at hb; cases hb
    · rw [upd_eq] at hm
      split at hm
      · next e =>
        subst e; cases hm
        refine ⟨x, hx, .inr ⟨g0, by rw [nS m x (by rw [hn]; simp) hx g0]; exact hMx, hFx, _, o1, ⟨by rw [List.length_map]; exact o2, ocl⟩, fun j e he => ?_⟩⟩
        rw [List.getElem?_map] at he
        cases hL : L[j]? with
        | none => rw [hL] at he; cases he
        | some q =>
          rw [hL] at he; cases he
          have hj : (L.map fun p => ((p.1, .sl 0 0 p.2.1, [InB.rows ty k p.2.1 p.2.2]) : Value × SV × List InB))[j]? = some (q.1, .sl 0 0 q.2.1, [InB.rows ty k q.2.1 q.2.2]) := by rw [List.getElem?_map, hL]; rfl
          obtain ⟨y, y1, y2, y3⟩ := o4 j _ hj
          refine ⟨y, y1, y2, ?_, y3⟩
          obtain ⟨⟨ents', cl', y', f1, f2, f3⟩, f4⟩ := r1 j _ _ _ ⟨hj, fun p hp => by cases hp⟩
          rw [o1] at f1; cases f1
          rw [y1] at f2; cases f2
          obtain ⟨z, z1, z2⟩ := f4 0 _ rfl
          show DR M' (.vec k q.2.1 q.2.2) y.val
          obtain ⟨qk, qn, qf⟩ := q
          simp only at f3 z2 ⊢
          generalize hv : y.val = v at f3
          cases f3 with
          | sl0 _ _ z' hz' hR aa => exact .vec0 _ _ _ _
          | sl _ _ _ z' hz' hlR hR h0 =>
            rw [z1] at hz'; obtain rfl := Option.some.inj hz'
            rcases z2 with ⟨h00, _⟩ | ⟨_, zS, o, z3, z4⟩
            · omega
            · cases o with
              | cells cur T fz =>
                obtain ⟨rfl, rfl, k1, k2, k3, k4⟩ := z4
                subst k1
                have hget : ∀ i c, i < qn → c < z.k → ∃ v, cur[i * z.k + c]? = some v ∧ DR M (qf i c) v := fun i c hi hc => k4 i c hi hc
                refine .vec z.k qn qf z.b (0 * z.k) _ cur T (0, 0) (fun i c => (cur[i * z.k + c]?).getD undef) (by rw [hM', if_pos zS]; exact z3) (by omega) (fun i c hi hc => ?_) (fun i c hi hc => ?_)
                · obtain ⟨v, v1, _⟩ := hget i c hi hc
                  rw [Nat.zero_mul, Nat.zero_add, v1]; rfl
                · obtain ⟨v, v1, v2⟩ := hget i c hi hc
                  simp only [v1, Option.getD_some]; exact v2.mono hle
              | _ => exact z4.elim
      · next e =>
        obtain ⟨z, hz, hr⟩ := hH.live m b hm
        refine ⟨z, hz, ?_⟩
        rcases hr with hr | ⟨h0, h1, h2, o, h3, h4⟩
        · exact .inl hr
        · exact .inr ⟨h0, by rw [nS m z (by rw [hm]; simp) hz h0]; exact h1, h2, o, h3, h4.mono hle (Names.le_refl _)⟩
    · rw [upd_eq] at hm
      split at hm
      · cases hm
      · next e =>
        obtain ⟨x2, hx2, q0, q1, q2, q3, q4⟩ := hH.fam m S2 es2 hm
        refine ⟨x2, hx2, q0, fun b hb => ⟨?_, (q1 b hb).2⟩, fun q z hq => q2 q z (ne q hq), fun q S3 es3 hqm hq b hb => ?_, q4.last hle (fun _ _ => rfl)⟩
        · rw [hM', if_neg (q3 n S _ (Ne.symm e) hn b hb)]; exact (q1 b hb).1
        · rw [upd_eq] at hq
          split at hq
          · cases hq
          · exact q3 q S3 es3 hqm hq b hb
  refine Code.wp_mono ?_ (kk M' F pin ρ a w ⟨⟨fun q => (hsr.tm q).mono hle (Names.le_refl _), hsr.sz, hsr.df, hHR, hsr.pn, hsr.pm, fun g ρ => (hsr.gl g ρ).mono hle (Names.le_refl _)⟩, hsr.fr⟩)
  rintro e a' w' ⟨M2, ρ2, σ2, h1, h2, h3, h4⟩
  exact ⟨M2, ρ2, σ2, Imm.le_trans hle h1, h2, h3, h4⟩
end Go.Proofs.Ytlhncpbcbpdcfaa.Nice
