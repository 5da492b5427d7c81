/- Operations, third part: append, make, maps, and slices taken of slices. -/
import Derived.Test.YtpdojmebloekgaaDoorNiceF
namespace Go.Proofs.YtpdojmebloekgaaDoor.Nice
open Go
set_option linter.unusedVariables false

/-- A block that is not there, for a slice without memory. -/
theorem HR.ghost {M F : Imm} {ρ : Names} {h : Heap} {w : World} (H : HR M F ρ h w) {nm : Nat} (hfr : ∀ n, nm ≤ n → n < nm + 8 → ρ n = none) (ty k : Nat) (f : Nat → Nat → D) :
    ∃ ρ' : Names, ρ.le ρ' ∧ (∀ n, n < nm ∨ nm + 8 ≤ n → ρ' n = ρ n) ∧ ρ' nm = some ⟨0, k, 0⟩ ∧ HR M F ρ' (upd h nm (some (.rows ty k 0 f))) w := by
  have hn := hfr nm (Nat.le_refl _) (by omega)
  have hle : ρ.le (fun m => if m = nm then some ⟨0, k, 0⟩ else ρ m) := by
    intro m x hx
    have : m ≠ nm := by rintro rfl; rw [hn] at hx; cases hx
    simp [this, hx]
  refine ⟨_, hle, fun n h => by have : n ≠ nm := by omega
                                simp [this], by simp, H.imm, H.frm, H.dis, ?_, ?_, ?_⟩
  rotate_right
  · refine H.famKeep (fun m S es hm => ?_) hle (Imm.le_refl _) (Nat.le_refl _) (fun _ _ _ _ _ _ a b => ⟨a, b⟩) (fun _ _ _ _ _ _ _ _ _ _ => rfl) (fun m S es p y hm hp hy h0 => ?_)
    · rw [upd_eq] at hm
      split at hm
      · cases hm
      · exact hm
    · by_cases e : p = nm
      · subst e; simp at hy; subst hy; exact absurd h0 (Nat.lt_irrefl _)
      · simp only [e, if_false] at hy
        rw [upd_other _ _ _ _ e] at hp
        exact .inl ⟨hp, hy⟩
  · intro m b hm
    rw [upd_eq] at hm
    split at hm
    · next e => subst e; cases hm; exact ⟨⟨0, k, 0⟩, by simp, .inl ⟨rfl, rfl⟩⟩
    · next e =>
      obtain ⟨x, hx, hr⟩ := H.live m b hm
      refine ⟨x, by simp [e, hx], ?_⟩
      rcases hr with hr | ⟨h0, h1, h2, o, h3, h4⟩
      · exact .inl hr
      · exact .inr ⟨h0, h1, h2, o, h3, h4.mono (Imm.le_refl _) hle⟩
  · intro p q x y hp hq hx hy h0x h0y hb
    simp only [upd_eq] at hp hq
    by_cases ep : p = nm
    · simp only [ep, if_true] at hx; cases hx; simp at h0x
    · by_cases eq : q = nm
      · simp only [eq, if_true] at hy; cases hy; simp at h0y
      · simp only [ep, eq, if_false] at hx hy hp hq
        exact H.sep p q x y hp hq hx hy h0x h0y hb

/-- A live block gets another name, and other contents in place. -/
theorem HR.move {M F : Imm} {ρ : Names} {h : Heap} {w w' : World} (H : HR M F ρ h w) {n nm : Nat} (hfr : ∀ m, nm ≤ m → m < nm + 8 → ρ m = none) (x : Own) (hn : h n ≠ none) (hx : ρ n = some x) (h0 : 0 < x.R) (blk : Blk) (obj : Obj)
    (hw : w'.heap[x.b]? = some obj) (ho : ∀ b, b ≠ x.b → w'.heap[b]? = w.heap[b]?) (hB : BR M ρ x blk obj) (hfm : ∀ S es, blk ≠ .fam S es := by intro S es h; cases h) (hsz : w.heap.size ≤ w'.heap.size := by simp) :
    ∃ ρ' : Names, ρ.le ρ' ∧ (∀ m, m < nm ∨ nm + 8 ≤ m → ρ' m = ρ m) ∧ ρ' nm = some x ∧ HR M F ρ' (upd (upd h n none) nm (some blk)) w' := by
  have hnm := hfr nm (Nat.le_refl _) (by omega)
  have hne : n ≠ nm := by rintro rfl; rw [hx] at hnm; cases hnm
  have hle : ρ.le (fun m => if m = nm then some x else ρ m) := by
    intro m y hy
    have : m ≠ nm := by rintro rfl; rw [hnm] at hy; cases hy
    simp [this, hy]
  have H2 := H.put n x hn hx h0 blk obj hw ho hB hfm hsz
  obtain ⟨y, hy, hr⟩ := H2.live n blk (by simp)
  rw [hx] at hy; obtain rfl := Option.some.inj hy
  have hr : 0 < x.R ∧ M x.b = none ∧ F x.b = none := by
    rcases hr with ⟨h00, _⟩ | ⟨_, h1, h2, _⟩
    · omega
    · exact ⟨h0, h1, h2⟩
  refine ⟨_, hle, fun m h => by have : m ≠ nm := by omega
                                simp [this], by simp, H2.imm, H2.frm, H2.dis, ?_, ?_, ?_⟩
  rotate_right
  · refine H2.famKeep (fun m S es hm => ?_) hle (Imm.le_refl _) (Nat.le_refl _) (fun _ _ _ _ _ _ a b => ⟨a, b⟩) (fun _ _ _ _ _ _ _ _ _ _ => rfl) (fun m S es p y hm hp hy h0y => ?_)
    · rw [upd_eq] at hm
      split at hm
      · exact absurd (Option.some.inj hm) (hfm S es)
      · rw [upd_eq] at hm
        split at hm
        · cases hm
        · next e => rw [upd_other _ _ _ _ e]; exact hm
    · by_cases e : p = nm
      · subst e
        simp only [if_true] at hy; cases hy
        obtain ⟨_, _, _, _, g2, _⟩ := H2.fam m S es hm
        exact .inr (g2 n x (by simp) hx h0)
      · simp only [e, if_false] at hy
        rw [upd_other _ _ _ _ e] at hp
        refine .inl ⟨fun e2 => hp ?_, hy⟩
        rw [upd_eq] at e2 ⊢
        split
        · rfl
        · next e3 => rw [if_neg e3] at e2; exact e2
  · intro m b hm
    rw [upd_eq] at hm
    split at hm
    · next e => subst e; cases hm; exact ⟨x, by simp, .inr ⟨hr.1, hr.2.1, hr.2.2, obj, hw, hB.mono (Imm.le_refl _) hle⟩⟩
    · next e =>
      rw [upd_eq] at hm
      split at hm
      · cases hm
      · next e2 =>
        obtain ⟨y, hy, hr⟩ := H2.live m b (by rw [upd_other _ _ _ _ e2]; exact hm)
        refine ⟨y, by simp [e, hy], ?_⟩
        rcases hr with hr | ⟨g0, h1, h2, o, h3, h4⟩
        · exact .inl hr
        · exact .inr ⟨g0, h1, h2, o, h3, h4.mono (Imm.le_refl _) hle⟩
  · have old : ∀ p, p ≠ nm → upd (upd h n none) nm (some blk) p ≠ none → p ≠ n ∧ upd h n (some blk) p ≠ none := by
      intro p ep hp
      rw [upd_other _ _ _ _ ep] at hp
      have : p ≠ n := by rintro rfl; simp at hp
      refine ⟨this, ?_⟩
      rw [upd_other _ _ _ _ this] at hp ⊢
      exact hp
    intro p q y z hp hq hy hz h0y h0z hb
    by_cases ep : p = nm <;> by_cases eq : q = nm
    · rw [ep, eq]
    · simp only [ep, if_true] at hy; simp only [eq, if_false] at hz
      obtain ⟨a1, a2⟩ := old q eq hq
      cases hy
      exact absurd (H2.sep n q x z (by simp) a2 hx hz h0 h0z hb).symm a1
    · simp only [eq, if_true] at hz; simp only [ep, if_false] at hy
      obtain ⟨a1, a2⟩ := old p ep hp
      cases hz
      exact absurd (H2.sep p n y x a2 (by simp) hy hx h0y h0 hb) a1
    · simp only [ep, eq, if_false] at hy hz
      exact H2.sep p q y z (old p ep hp).2 (old q eq hq).2 hy hz h0y h0z hb

/-- The first cells of a list of rows, as values. -/
def CR (M : Imm) (ρ : Names) (k : Nat) : Blk → Nat → List Value → Prop
  | .cells _ k' xs, len, l => k' = k ∧ xs.length = len * k ∧ l.length = len * k ∧ ∀ (j : Nat) (s : SV), xs[j]? = some s → ∃ v, l[j]? = some v ∧ VR M ρ s v
  | .rows _ k' len' f, len, l => k' = k ∧ len' = len ∧ l.length = len * k ∧ ∀ i c, i < len → c < k → ∃ v, l[i * k + c]? = some v ∧ DR M (f i c) v
  | _, _, _ => False
theorem CR.length {M : Imm} {ρ : Names} {k : Nat} {b : Blk} {len : Nat} {l : List Value} (h : CR M ρ k b len l) : l.length = len * k := by
  cases b with
  | cells => exact h.2.2.1
  | rows => exact h.2.2.1
  | map => exact h.elim
  | fam => exact h.elim
  | iter => exact h.elim
theorem CR.nofam {M : Imm} {ρ : Names} {k : Nat} {b : Blk} {len : Nat} {l : List Value} (h : CR M ρ k b len l) : ∀ S es, b ≠ .fam S es := by
  rintro S es rfl; exact h
def Blk.ty : Blk → TypeId
  | .cells t _ _ | .rows t _ _ _ => t
  | _ => 0
def Blk.withTy (e : TypeId) : Blk → Blk
  | .cells _ k xs => .cells e k xs
  | .rows _ k n f => .rows e k n f
  | b => b
theorem CR.BR {M : Imm} {ρ : Names} {b : Blk} {len : Nat} {l : List Value} {x : Own} {cur : Array Value} {e : TypeId} (h : CR M ρ x.k b len l) (hl : cur.toList.take (len * x.k) = l) (hs : cur.size = x.R * x.k) (hR : len ≤ x.R) :
    BR M ρ x (b.withTy e) (.cells cur e) := by
  have get : ∀ (j : Nat) (v : Value), l[j]? = some v → cur[j]? = some v := by
    intro j v hv
    rw [← hl, List.getElem?_take] at hv
    split at hv
    · rw [← Array.getElem?_toList]; exact hv
    · cases hv
  cases b with
  | cells ty k xs =>
    obtain ⟨h1, h2, h3, h4⟩ := h
    subst h1
    refine ⟨rfl, rfl, rfl, hs, ?_, fun j s hj => let ⟨v, v1, v2⟩ := h4 j s hj; ⟨v, get j v v1, v2⟩⟩
    rw [h2, hs]; exact Nat.mul_le_mul_right _ hR
  | rows ty k n f =>
    obtain ⟨h1, h2, h3, h4⟩ := h
    subst h1; subst h2
    exact ⟨rfl, rfl, rfl, hs, hR, fun i c hi hc => let ⟨v, v1, v2⟩ := h4 i c hi hc; ⟨v, get _ v v1, v2⟩⟩
  | map => exact h.elim
  | fam => exact h.elim
  | iter => exact h.elim

def catR (f : Nat → Nat → D) (n : Nat) (g : Nat → Nat → D) : Nat → Nat → D := fun i c => if i < n then f i c else g (i - n) c
def litR (k : Nat) (ds : List D) : Nat → Nat → D := fun i c => ds.getD (i * k + c) .any
def catBlk (e k : Nat) : Blk → Nat → Blk → Nat → Option Blk
  | .cells _ _ xs, n, .cells _ _ ys, m => some (.cells e k (xs ++ ys))
  | .rows _ _ _ f, n, .rows _ _ _ g, m => some (.rows e k (n + m) (catR f n g))
  | .rows _ _ _ f, n, .cells _ _ ys, m => match dOf ys with | some ds => some (.rows e k (n + m) (catR f n (litR k ds))) | none => none
  | .cells _ _ xs, n, .rows _ _ _ g, m => match xs with
    | [] => some (.rows e k m g)
    | _ => match dOf xs with | some ds => some (.rows e k (n + m) (catR (litR k ds) n g)) | none => none
  | _, _, _, _ => none

theorem litR_ok {M : Imm} {ρ : Names} {k n : Nat} {ys : List SV} {ds : List D} {l : List Value} (hd : dOf ys = some ds) (h2 : ys.length = n * k) (h4 : ∀ (j : Nat) (s : SV), ys[j]? = some s → ∃ v, l[j]? = some v ∧ VR M ρ s v) :
    ∀ i c, i < n → c < k → ∃ v, l[i * k + c]? = some v ∧ DR M (litR k ds i c) v := by
  intro i c hi hc
  obtain ⟨d1, d2⟩ := dOf_get hd
  have hlt : i * k + c < ds.length := by
    rw [d1, h2]
    have : (i + 1) * k ≤ n * k := Nat.mul_le_mul_right _ hi
    rw [Nat.succ_mul] at this; omega
  have hx : ds[i * k + c]? = some (ds[i * k + c]'hlt) := List.getElem?_eq_getElem hlt
  obtain ⟨v, v1, v2⟩ := h4 _ _ (d2 _ _ hx)
  refine ⟨v, v1, ?_⟩
  unfold litR
  rw [List.getD_eq_getElem?_getD, hx]
  cases v2 with | d _ _ h => exact h

theorem catR_ok {M : Imm} {k n m : Nat} {f g : Nat → Nat → D} {l1 l2 : List Value} (h1 : l1.length = n * k) (hf : ∀ i c, i < n → c < k → ∃ v, l1[i * k + c]? = some v ∧ DR M (f i c) v)
    (hg : ∀ i c, i < m → c < k → ∃ v, l2[i * k + c]? = some v ∧ DR M (g i c) v) : ∀ i c, i < n + m → c < k → ∃ v, (l1 ++ l2)[i * k + c]? = some v ∧ DR M (catR f n g i c) v := by
  intro i c hi hc
  unfold catR
  by_cases h : i < n
  · rw [if_pos h]
    have : (i + 1) * k ≤ n * k := Nat.mul_le_mul_right _ h
    rw [Nat.succ_mul] at this
    rw [List.getElem?_append_left (by omega)]
    exact hf i c h hc
  · rw [if_neg h]
    have : n * k ≤ i * k := Nat.mul_le_mul_right _ (by omega)
    rw [List.getElem?_append_right (by omega), h1, show i * k + c - n * k = (i - n) * k + c by rw [Nat.sub_mul]; omega]
    exact hg (i - n) c (by omega) hc

theorem catBlk_ok {M : Imm} {ρ : Names} {e k : Nat} (hk : 0 < k) {b1 b2 b : Blk} {n m : Nat} {l1 l2 : List Value} (h1 : CR M ρ k b1 n l1) (h2 : CR M ρ k b2 m l2) (hb : catBlk e k b1 n b2 m = some b) : CR M ρ k b (n + m) (l1 ++ l2) ∧ b.withTy e = b := by
  have hlen : (l1 ++ l2).length = (n + m) * k := by rw [List.length_append, h1.length, h2.length, Nat.add_mul]
  cases b1 with
  | map => exact h1.elim
  | fam => exact h1.elim
  | iter => exact h1.elim
  | cells t1 k1 xs =>
    obtain ⟨rfl, x2, x3, x4⟩ := h1
    cases b2 with
    | map => exact h2.elim
    | fam => exact h2.elim
    | iter => exact h2.elim
    | cells t2 k2 ys =>
      obtain ⟨rfl, y2, y3, y4⟩ := h2
      cases hb
      refine ⟨⟨rfl, by rw [List.length_append, x2, y2, Nat.add_mul], hlen, fun j s hj => ?_⟩, rfl⟩
      by_cases hjl : j < xs.length
      · rw [List.getElem?_append_left hjl] at hj
        obtain ⟨v, v1, v2⟩ := x4 j s hj
        exact ⟨v, by rw [List.getElem?_append_left (by omega)]; exact v1, v2⟩
      · rw [List.getElem?_append_right (by omega)] at hj
        obtain ⟨v, v1, v2⟩ := y4 _ s hj
        exact ⟨v, by rw [List.getElem?_append_right (by omega), x3, ← x2]; exact v1, v2⟩
    | rows t2 k2 m' g =>
      obtain ⟨rfl, rfl, y3, y4⟩ := h2
      simp only [catBlk] at hb
      split at hb
      · cases hb
        have hn : n * k2 = 0 := by simpa using x2.symm
        have hl1 : l1 = [] := List.eq_nil_of_length_eq_zero (by rw [x3, hn])
        have : n = 0 := by
          rcases Nat.mul_eq_zero.1 hn with h | h
          · exact h
          · omega
        subst this; subst hl1
        rw [Nat.zero_add, List.nil_append]
        exact ⟨⟨rfl, rfl, y3, y4⟩, rfl⟩
      · next hne =>
        split at hb
        · next ds hds => cases hb; exact ⟨⟨rfl, rfl, hlen, catR_ok x3 (litR_ok hds x2 x4) y4⟩, rfl⟩
        · cases hb
  | rows t1 k1 n' f =>
    obtain ⟨rfl, rfl, x3, x4⟩ := h1
    cases b2 with
    | map => exact h2.elim
    | fam => exact h2.elim
    | iter => exact h2.elim
    | cells t2 k2 ys =>
      obtain ⟨rfl, y2, y3, y4⟩ := h2
      simp only [catBlk] at hb
      split at hb
      · next ds hds => cases hb; exact ⟨⟨rfl, rfl, hlen, catR_ok x3 x4 (litR_ok hds y2 y4)⟩, rfl⟩
      · cases hb
    | rows t2 k2 m' g =>
      obtain ⟨rfl, rfl, y3, y4⟩ := h2
      cases hb
      exact ⟨⟨rfl, rfl, hlen, catR_ok x3 x4 y4⟩, rfl⟩

/-- What an append takes over. -/
def srcS (v : SV) (h : Heap) (k : Nat) : Option (Prop × List (Nat × Blk) × Blk × Nat) :=
  match v with
  | .d .nils => some (True, [], .cells 0 k [], 0)
  | .d (.vec k' len f) => if Nat.beq k' k then some (True, [], .rows 0 k len f, len) else none
  | .sl n o len =>
    match h n with
    | some (.cells ty k' xs) => if Nat.beq k' k && (Nat.beq ((xs.drop (o * k)).take (len * k)).length (len * k) && allOne ((xs.drop (o * k)).take (len * k))) then some (True, [(n, .cells ty k' xs)], .cells 0 k ((xs.drop (o * k)).take (len * k)), len) else none
    | some (.rows ty k' L f) => if Nat.beq k' k then some (o + len ≤ L, [(n, .rows ty k' L f)], .rows 0 k len (if Nat.beq o 0 then f else fun i c => f (o + i) c), len) else none
    | _ => none
  | _ => none

theorem srcS_ok {v : SV} {h0 : Heap} {k : Nat} {vc : Prop} {bs : List (Nat × Blk)} {blk : Blk} {m : Nat} (e : srcS v h0 k = some (vc, bs, blk, m)) (hvc : vc) :
    (∀ p, p ∈ bs → h0 p.1 = some p.2) ∧ ∀ (M F : Imm) (ρ : Names) (h : Heap) (w : World) (av : Value), VR M ρ v av → HR M F ρ h w → (∀ p, p ∈ bs → h p.1 = some p.2) →
      ∃ xa xc l, av = .slice xa m xc ∧ CR M ρ k blk m l ∧ (m = 0 ∨ k = 0 ∨ ∃ ad, xa = some ad ∧ ∀ (j : Nat) (u : Value), l[j]? = some u → w.cell? (ad.add j) = some u ∧ u.oneCell' = true) := by
  unfold srcS at e
  split at e
  · cases e
    refine ⟨fun p hp => by simp at hp, fun M F ρ h w av hv _ _ => ?_⟩
    cases hv with | d _ _ hd => cases hd with | nils a => exact ⟨a, 0, [], rfl, ⟨rfl, by simp, by simp, fun j s hs => by simp at hs⟩, .inl rfl⟩
  · next k' len f =>
    split at e
    · next hk =>
      cases e
      have hk := Nat.eq_of_beq_eq_true hk; subst hk
      refine ⟨fun p hp => by simp at hp, fun M F ρ h w av hv hH _ => ?_⟩
      cases hv with
      | d _ _ hd =>
        cases hd with
        | vec0 _ _ a cap => exact ⟨a, cap, [], rfl, ⟨rfl, rfl, by simp, fun i c hi => by omega⟩, .inl rfl⟩
        | vec _ _ _ b o cap cur T fz g hb hc hg hr =>
          by_cases hz : m = 0 ∨ k' = 0
          · refine ⟨_, cap, [], rfl, ⟨rfl, rfl, ?_, fun i c hi hc => by omega⟩, by rcases hz with h | h; exact .inl h; exact .inr (.inl h)⟩
            rcases hz with h | h <;> simp [h]
          · have hm : 0 < m := by omega
            have hk : 0 < k' := by omega
            have hw := hH.imm b _ hb
            have hget : ∀ j, j < m * k' → ∃ u, cur[o + j]? = some u ∧ u.oneCell' = true := by
              intro j hj
              have hjk : j / k' < m := Nat.div_lt_of_lt_mul (by rw [Nat.mul_comm]; exact hj)
              have hjm : j % k' < k' := Nat.mod_lt _ hk
              refine ⟨g (j / k') (j % k'), ?_, (hr _ _ hjk hjm).one⟩
              rw [← hg _ _ hjk hjm]
              congr 1
              have := Nat.div_add_mod j k'
              rw [Nat.mul_comm] at this; omega
            let l : List Value := (List.range (m * k')).map fun j => (cur[o + j]?).getD undef
            have hl : ∀ j, j < m * k' → l[j]? = cur[o + j]? := by
              intro j hj
              obtain ⟨u, hu, _⟩ := hget j hj
              simp [l, hj, hu]
            refine ⟨_, cap, l, rfl, ⟨rfl, rfl, by simp [l], fun i c hi hcc => ?_⟩, .inr (.inr ⟨⟨b, o, none⟩, rfl, fun j u hj => ?_⟩)⟩
            · have hlt : i * k' + c < m * k' := by
                have : (i + 1) * k' ≤ m * k' := Nat.mul_le_mul_right _ hi
                rw [Nat.succ_mul] at this; omega
              refine ⟨g i c, ?_, hr i c hi hcc⟩
              rw [hl _ hlt, ← hg i c hi hcc]; congr 1; omega
            · have hlt : j < m * k' := by
                have := (List.getElem?_eq_some_iff.1 hj).1
                simpa [l] using this
              rw [hl j hlt] at hj
              obtain ⟨u', h1, h2⟩ := hget j hlt
              rw [hj] at h1; cases h1
              rw [Addr.add_lit, cell_of_row w b _ cur T fz hw]
              exact ⟨hj, h2⟩
    · cases e
  · next n o len =>
    split at e
    · next ty k' xs hn =>
      split at e
      · next hc =>
        cases e
        simp only [Bool.and_eq_true] at hc
        have hk := Nat.eq_of_beq_eq_true hc.1; subst hk
        have hlen := Nat.eq_of_beq_eq_true hc.2.1
        refine ⟨fun p hp => by simp at hp; subst hp; exact hn, fun M F ρ h w av hv hH hbs => ?_⟩
        have hn' := hbs _ (List.mem_singleton.2 rfl)
        cases hv with
        | sl0 _ _ x hx hR a => exact ⟨a, 0, [], rfl, ⟨rfl, by simp, by simp, fun j s hs => by simp at hs⟩, .inl rfl⟩
        | sl _ _ _ x hx hl hR h0 =>
          obtain ⟨cur, k1, k2, k3, k4, k5, k6⟩ := hH.cells hn' hx
          have hget : ∀ (j : Nat) (s : SV), ((xs.drop (o * k')).take (m * k'))[j]? = some s → ∃ u, cur[o * k' + j]? = some u ∧ VR M ρ s u := by
            intro j s hs
            rw [List.getElem?_take] at hs
            split at hs
            · rw [List.getElem?_drop] at hs
              obtain ⟨u, u1, u2⟩ := k6 _ s hs
              exact ⟨u, u1, u2⟩
            · cases hs
          let l : List Value := (cur.toList.drop (o * k')).take (m * k')
          have hll : l.length = m * k' := by
            have : m * k' ≤ xs.length - o * k' := by
              rw [List.length_take, List.length_drop] at hlen; omega
            simp only [l, List.length_take, List.length_drop, Array.length_toList]; omega
          have hl2 : ∀ j, j < m * k' → l[j]? = cur[o * k' + j]? := by
            intro j hj
            simp only [l]
            rw [List.getElem?_take, if_pos hj, List.getElem?_drop, Array.getElem?_toList]
          refine ⟨_, _, l, rfl, ⟨rfl, hlen, hll, fun j s hs => ?_⟩, .inr (.inr ⟨_, rfl, fun j u hj => ?_⟩)⟩
          · have hj : j < m * k' := by rw [← hlen]; exact (List.getElem?_eq_some_iff.1 hs).1
            obtain ⟨u, u1, u2⟩ := hget j s hs
            exact ⟨u, by rw [hl2 j hj]; exact u1, u2⟩
          · have hjl : j < m * k' := by rw [← hll]; exact (List.getElem?_eq_some_iff.1 hj).1
            rw [hl2 j hjl] at hj
            rw [Addr.add_lit, k3, cell_of_row w x.b _ cur ty (0, 0) k1]
            have hjx : j < ((xs.drop (o * k')).take (m * k')).length := by rw [hlen]; exact hjl
            obtain ⟨u', u1, u2⟩ := hget j _ (List.getElem?_eq_getElem hjx)
            rw [hj] at u1; cases u1
            exact ⟨hj, u2.one (allOne_get hc.2.2 j _ (List.getElem?_eq_getElem hjx))⟩
      · cases e
    · next ty k' L f hn =>
      split at e
      · next hk =>
        cases e
        have hk := Nat.eq_of_beq_eq_true hk; subst hk
        refine ⟨fun p hp => by simp at hp; subst hp; exact hn, fun M F ρ h w av hv hH hbs => ?_⟩
        have hn' := hbs _ (List.mem_singleton.2 rfl)
        have hfo : ∀ i c, (if Nat.beq o 0 = true then f else fun i c => f (o + i) c) i c = f (o + i) c := by
          intro i c
          split
          · next h => have := Nat.eq_of_beq_eq_true h; subst this; rw [Nat.zero_add]
          · rfl
        by_cases hz : m = 0 ∨ k' = 0
        · have hcr : CR M ρ k' (.rows 0 k' m (if Nat.beq o 0 = true then f else fun i c => f (o + i) c)) m [] :=
            ⟨rfl, rfl, by rcases hz with h | h <;> simp [h], fun i c hi hc => by omega⟩
          have hz' : ∀ xa : Option Addr, m = 0 ∨ k' = 0 ∨ ∃ ad, xa = some ad ∧ ∀ (j : Nat) (u : Value), ([] : List Value)[j]? = some u → w.cell? (ad.add j) = some u ∧ u.oneCell' = true := by
            intro xa; rcases hz with h | h
            · exact .inl h
            · exact .inr (.inl h)
          cases hv with
          | sl0 _ _ x hx hR a => exact ⟨a, 0, [], rfl, hcr, hz' _⟩
          | sl _ _ _ x hx hl hR h0 => exact ⟨_, _, [], rfl, hcr, hz' _⟩
        · cases hv with
          | sl0 _ _ x hx hR a => omega
          | sl _ _ _ x hx hl hR h0 =>
            obtain ⟨cur, k1, k2, k3, k4, k5, k6⟩ := hH.rows hn' (by omega) hx
            have hk : 0 < k' := by omega
            have hget : ∀ i c, i < m → c < k' → ∃ u, cur[o * k' + (i * k' + c)]? = some u ∧ DR M (f (o + i) c) u := by
              intro i c hi hc
              obtain ⟨u, u1, u2⟩ := k6 (o + i) c (by omega) hc
              exact ⟨u, by rw [← u1, Nat.add_mul]; congr 1; omega, u2⟩
            let l : List Value := (cur.toList.drop (o * k')).take (m * k')
            have hfit : o * k' + m * k' ≤ cur.size := by rw [← Nat.add_mul, k4]; exact Nat.mul_le_mul_right _ hl
            have hll : l.length = m * k' := by
              simp only [l, List.length_take, List.length_drop, Array.length_toList]; omega
            have hl2 : ∀ j, j < m * k' → l[j]? = cur[o * k' + j]? := by
              intro j hj
              simp only [l]
              rw [List.getElem?_take, if_pos hj, List.getElem?_drop, Array.getElem?_toList]
            refine ⟨_, _, l, rfl, ⟨rfl, rfl, hll, fun i c hi hc => ?_⟩, .inr (.inr ⟨_, rfl, fun j u hj => ?_⟩)⟩
            · have hlt : i * k' + c < m * k' := by
                have : (i + 1) * k' ≤ m * k' := Nat.mul_le_mul_right _ hi
                rw [Nat.succ_mul] at this; omega
              obtain ⟨u, u1, u2⟩ := hget i c hi hc
              exact ⟨u, by rw [hl2 _ hlt]; exact u1, by rw [hfo]; exact u2⟩
            · have hjl : j < m * k' := by rw [← hll]; exact (List.getElem?_eq_some_iff.1 hj).1
              rw [hl2 j hjl] at hj
              rw [Addr.add_lit, k3, cell_of_row w x.b _ cur ty (0, 0) k1]
              have hjk : j / k' < m := Nat.div_lt_of_lt_mul (by rw [Nat.mul_comm]; exact hjl)
              obtain ⟨u', u1, u2⟩ := hget (j / k') (j % k') hjk (Nat.mod_lt _ hk)
              have hjj : j / k' * k' + j % k' = j := by rw [Nat.mul_comm]; exact Nat.div_add_mod j k'
              rw [hjj, hj] at u1; cases u1
              exact ⟨hj, u2.one⟩
      · cases e
    · cases e
  · cases e

theorem HR.drew {M F : Imm} {ρ : Names} {h : Heap} {w : World} (H : HR M F ρ h w) : HR M F ρ h w.drew := H.drawn _

/-- The row that a growing append makes. -/
theorem grown_block {M F : Imm} {ρ : Names} {h : Heap} {w : World} (hH : HR M F ρ h w) {nm : Nat} (hfr : ∀ n, nm ≤ n → n < nm + 8 → ρ n = none) {e k N cap : Nat} {z : Array Value} (hz : z.size = k) (hN : 0 < N) (hcap : N ≤ cap) (hmax : cap ≤ maxLen)
    {blk : Blk} {l : List Value} (hCR : CR M ρ k blk N l) (hty : blk.withTy e = blk) (arr : Array Value) (harr : arr.toList = l) :
    ∃ ρ' : Names, ρ.le ρ' ∧ (∀ n, n < nm ∨ nm + 8 ≤ n → ρ' n = ρ n) ∧ VR M ρ' (.sl nm 0 N) (.slice (some ⟨w.heap.size, 0, none⟩) N cap) ∧
      HR M F ρ' (upd h nm (some blk)) (w.drew.alloc (.cells (arr ++ Builtin.zeroCells z (cap - N)) e)) ∧ Same w (w.drew.alloc (.cells (arr ++ Builtin.zeroCells z (cap - N)) e)) := by
  have hsz : (arr ++ Builtin.zeroCells z (cap - N)).size = cap * k := by
    rw [Array.size_append, size_zeroCells, hz, ← Array.length_toList, harr, hCR.length, ← Nat.add_mul]
    congr 1; omega
  obtain ⟨ρ', k1, k2, k3, k4⟩ := new_block (hH.drew) hfr k cap (by omega) blk (.cells (arr ++ Builtin.zeroCells z (cap - N)) e) (by
    intro ρ' hρ'
    rw [← hty]
    have : BR M ρ ⟨w.heap.size, k, cap⟩ (blk.withTy e) (.cells (arr ++ Builtin.zeroCells z (cap - N)) e) := by
      refine CR.BR (x := ⟨w.heap.size, k, cap⟩) hCR ?_ hsz hcap
      rw [Array.toList_append, harr, List.take_append_of_le_length (by rw [hCR.length]; exact Nat.le_refl _)]
      rw [← hCR.length, List.take_length]
    exact this.mono (Imm.le_refl _) hρ') hCR.nofam
  refine ⟨ρ', k1, k2, ?_, k4, ⟨rfl, rfl, rfl, by simp⟩⟩
  have := VR.sl (M := M) nm 0 N _ k3 (by simpa using hcap) hmax (by show 0 < cap; omega)
  simpa using this

theorem run_append_zero {P : Program} {t ty e : TypeId} {i : TypeInfo} (ht : P.underlying t = some (.slice e)) (hi : P.info? e = some i) (a xa : Option Addr) (n c xc : Nat) (hc : n ≤ c) (w : World) :
    (Builtin.append_ #[t, t] ty #[.slice a n c, .slice xa 0 xc]).run P w = .ok (.slice a n c) w := by
  cases a with
  | none => cases xa <;> simp [Builtin.append_, run_underlying ht, sizeOf, typeInfo, hi, Builtin.lenOf, hc, Builtin.firstCells, loadCells, loadCellsFrom]
  | some a => cases xa <;> simp [Builtin.append_, run_underlying ht, sizeOf, typeInfo, hi, Builtin.lenOf, hc, Builtin.firstCells, loadCells, loadCellsFrom, storeCells]

def limB : Nat := 140737488355328

/-- Appended to a slice without memory. -/
theorem append_none {P : Program} {M F : Imm} {ρ : Names} {h : Heap} {w : World} (hH : HR M F ρ h w) {nm : Nat} (hfr : ∀ n, nm ≤ n → n < nm + 8 → ρ n = none) {t ty e : TypeId} {i : TypeInfo} {zv : Value}
    (ht : P.underlying t = some (.slice e)) (hi : P.info? e = some i) (hzv : i.zero = some zv) (hzs : zv.cells.size = i.size) (hk : 0 < i.size) (a xa : Option Addr) (m xc : Nat) {blk : Blk} {l : List Value} (hm : 0 < m)
    (hCR : CR M ρ i.size blk m l) (hty : blk.withTy e = blk) (hsrc : ∃ ad, xa = some ad ∧ ∀ (j : Nat) (u : Value), l[j]? = some u → w.cell? (ad.add j) = some u ∧ u.oneCell' = true) (hb : m * i.bytes ≤ limB) (h63 : m ≤ maxLen) :
    ∃ ρ' v' w', ρ.le ρ' ∧ (∀ n, n < nm ∨ nm + 8 ≤ n → ρ' n = ρ n) ∧ (Builtin.append_ #[t, t] ty #[.slice a 0 0, .slice xa m xc]).run P w = .ok v' w' ∧ VR M ρ' (.sl nm 0 m) v' ∧ HR M F ρ' (upd h nm (some blk)) w' ∧ Same w w' := by
  obtain ⟨ad, rfl, hcells⟩ := hsrc
  have h63' : (m : Int) ≤ 9223372036854775807 := by simp only [maxLen] at h63; omega
  have hge := grownCap_ge w m 0 e
  obtain ⟨ρ', k1, k2, k3, k4, k5⟩ := grown_block hH hfr (e := e) hzs hm hge (grownCap_le_maxLen w m 0 e h63) hCR hty l.toArray (by simp)
  refine ⟨ρ', _, _, k1, k2, ?_, k3, k4, k5⟩
  cases a with
  | none => exact run_append_nil w t ty e i zv ht hi hzv ad m xc l hCR.length (fun j u hj => (hcells j u hj).1) hm h63' (by unfold limB at hb; omega)
  | some a =>
    have := run_append_grow (P := P) w t ty e i zv ht hi hzv a 0 0 [] (by simp) (fun j v hv => by simp at hv) ad m xc l hCR.length (fun j u hj => (hcells j u hj).1) (by omega) (by simpa using h63')
      (by rw [Nat.zero_add, nextslicecap_zero hm]; unfold limB at hb; omega)
    simp only [Nat.zero_add] at this
    rw [this]
    simp

/-- Appended to a slice that has memory. -/
theorem append_some {P : Program} {M F : Imm} {ρ : Names} {h : Heap} {w : World} (hH : HR M F ρ h w) {nm : Nat} (hfr : ∀ n, nm ≤ n → n < nm + 8 → ρ n = none) {t ty e : TypeId} {i : TypeInfo} {zv : Value}
    (ht : P.underlying t = some (.slice e)) (hi : P.info? e = some i) (hzv : i.zero = some zv) (hzs : zv.cells.size = i.size) (hk : 0 < i.size) {n len m : Nat} {x : Own} (hn : h n ≠ none) (hx : ρ n = some x) (h0 : 0 < x.R) (hR : x.R ≤ maxLen) (hxk : x.k = i.size)
    {cur : Array Value} (hcur : w.heap[x.b]? = some (.cells cur e (0, 0))) (hsz : cur.size = x.R * x.k) (hlen : len ≤ x.R) {dblk sblk blk : Blk} {dl l : List Value} (hdl : cur.toList.take (len * i.size) = dl) (hd : CR M ρ i.size dblk len dl)
    (hs : CR M ρ i.size sblk m l) (hcat : catBlk e i.size dblk len sblk m = some blk) (xa : Option Addr) (xc : Nat) (hsrc : m = 0 ∨ ∃ ad, xa = some ad ∧ ∀ (j : Nat) (u : Value), l[j]? = some u → w.cell? (ad.add j) = some u ∧ u.oneCell' = true)
    (hb : (len + m) * i.bytes ≤ limB) (h63 : len + m ≤ maxLen) :
    ∃ ρ' v' w', ρ.le ρ' ∧ (∀ n, n < nm ∨ nm + 8 ≤ n → ρ' n = ρ n) ∧ (Builtin.append_ #[t, t] ty #[.slice (some ⟨x.b, 0, none⟩) len x.R, .slice xa m xc]).run P w = .ok v' w' ∧ VR M ρ' (.sl nm 0 (len + m)) v' ∧
      HR M F ρ' (upd (upd h n none) nm (some blk)) w' ∧ Same w w' := by
  obtain ⟨hCR, hty⟩ := catBlk_ok hk hd hs hcat
  have inplace : ∀ (cur' : Array Value) (w' : World), w'.heap[x.b]? = some (.cells cur' e (0, 0)) → (∀ b, b ≠ x.b → w'.heap[b]? = w.heap[b]?) → Same w w' → cur'.size = x.R * x.k → cur'.toList.take ((len + m) * i.size) = dl ++ l → len + m ≤ x.R →
      ∃ ρ', ρ.le ρ' ∧ (∀ n, n < nm ∨ nm + 8 ≤ n → ρ' n = ρ n) ∧ VR M ρ' (.sl nm 0 (len + m)) (.slice (some ⟨x.b, 0, none⟩) (len + m) x.R) ∧ HR M F ρ' (upd (upd h n none) nm (some blk)) w' := by
    intro cur' w' h1 h2 h3 h4 h5 h6
    have hB : BR M ρ x blk (.cells cur' e) := by
      rw [← hty]
      exact CR.BR (x := x) (by rw [hxk]; exact hCR) (by rw [hxk]; exact h5) h4 h6
    obtain ⟨ρ', k1, k2, k3, k4⟩ := hH.move hfr x hn hx h0 blk (.cells cur' e) h1 h2 hB hCR.nofam h3.size
    refine ⟨ρ', k1, k2, ?_, k4⟩
    have := VR.sl (M := M) nm 0 (len + m) x k3 (by omega) hR h0
    simpa using this
  have hdlen := hd.length
  rcases hsrc with rfl | ⟨ad, rfl, hcells⟩
  · have hl0 : l = [] := List.eq_nil_of_length_eq_zero (by rw [hs.length, Nat.zero_mul])
    subst hl0
    obtain ⟨ρ', k1, k2, k3, k4⟩ := inplace cur w hcur (fun _ _ => rfl) (.refl _) hsz (by rw [Nat.add_zero, List.append_nil]; exact hdl) (by omega)
    exact ⟨ρ', _, w, k1, k2, run_append_zero ht hi _ _ _ _ _ hlen w, k3, k4, .refl _⟩
  · by_cases hroom : len + m ≤ x.R
    · have hfit : len * i.size + l.length ≤ cur.size := by rw [hs.length, hsz, hxk, ← Nat.add_mul]; exact Nat.mul_le_mul_right _ hroom
      have h1 : ∀ u, u ∈ l → u.oneCell' = true := by
        intro u hu
        obtain ⟨j, hj⟩ := List.mem_iff_getElem?.1 hu
        exact (hcells j u hj).2
      have hr := run_append_room (P := P) w t ty e i ht hi x.b len x.R cur hcur ad m xc l hs.length (fun j u hj => (hcells j u hj).1) h1 hroom hfit
      obtain ⟨ρ', k1, k2, k3, k4⟩ := inplace (cur.toList.take (len * i.size) ++ l ++ cur.toList.drop (len * i.size + l.length)).toArray _ (setRow_heap w x.b cur _ e _ hcur) (fun b hb => setRow_other w x.b b _ hb) ⟨rfl, rfl, rfl, by simp⟩ (by
          simp only [List.size_toArray, List.length_append, List.length_take, List.length_drop, Array.length_toList]; omega) (by
          rw [List.toList_toArray, hdl, List.append_assoc]
          rw [show (len + m) * i.size = (dl ++ l).length by rw [List.length_append, hdlen, hs.length, Nat.add_mul]]
          rw [← List.append_assoc]
          exact List.take_left) hroom
      exact ⟨ρ', _, _, k1, k2, hr, k3, k4, ⟨rfl, rfl, rfl, by simp⟩⟩
    · have hm : 0 < len + m := by omega
      have h63' : ((len + m : Nat) : Int) ≤ 9223372036854775807 := by simp only [maxLen] at h63; omega
      have hge := grownCap_ge w (len + m) x.R e
      have hr := run_append_grow (P := P) w t ty e i zv ht hi hzv ⟨x.b, 0, none⟩ len x.R dl hdlen (fun j u hj => by
          rw [Addr.add_lit, Nat.zero_add, cell_of_row w x.b _ cur e (0, 0) hcur]
          rw [← hdl, List.getElem?_take] at hj
          split at hj
          · rw [← Array.getElem?_toList]; exact hj
          · cases hj) ad m xc l hs.length (fun j u hj => (hcells j u hj).1) (by omega) h63' (growslice_fits (by omega) (by unfold limB at hb; exact hb))
      obtain ⟨ρ', k1, k2, k3, k4, k5⟩ := grown_block (hH.drop n) hfr (e := e) hzs hm hge (grownCap_le_maxLen w (len + m) x.R e h63) hCR hty (dl.toArray ++ l.toArray) (by simp)
      exact ⟨ρ', _, _, k1, k2, hr, k3, k4, k5⟩

def appendS (P : Program) (nm : Nat) (t : TypeId) (dst src : SV) (h : Heap) : Option Out :=
  match P.underlying t with
  | some (.slice e) =>
    match P.info? e, zerosOf P e with
    | some inf, some z =>
      match srcS src h inf.size with
      | some (vc, bs, sb, m) =>
        if Nat.blt 0 inf.size then
          match dst with
          | .d .nils =>
            match sb with
            | .rows _ k' _ g => some (vc ∧ m * inf.bytes ≤ limB ∧ m ≤ maxLen, bs, .sl nm 0 m, [(nm, some (.rows e k' m g))])
            | .cells _ _ xs => if Nat.blt 0 m then some (vc ∧ m * inf.bytes ≤ limB ∧ m ≤ maxLen, bs, .sl nm 0 m, [(nm, some (.cells e inf.size xs))]) else none
            | _ => none
          | .sl n 0 len =>
            match h n with
            | some (.cells ty k' xs) =>
              if Nat.beq k' inf.size && (Nat.beq ty e && Nat.beq (xs.take (len * inf.size)).length (len * inf.size)) then
                match catBlk e inf.size (.cells e inf.size (xs.take (len * inf.size))) len sb m with
                | some blk => some (vc ∧ (len + m) * inf.bytes ≤ limB ∧ len + m ≤ maxLen, (n, .cells ty k' xs) :: bs, .sl nm 0 (len + m), [(n, none), (nm, some blk)])
                | none => none
              else none
            | some (.rows ty k' L f) =>
              if Nat.beq k' inf.size && Nat.beq ty e then
                match catBlk e inf.size (.rows e inf.size len f) len sb m with
                | some blk => some (len ≤ L ∧ vc ∧ (len + m) * inf.bytes ≤ limB ∧ len + m ≤ maxLen, (n, .rows ty k' L f) :: bs, .sl nm 0 (len + m), [(n, none), (nm, some blk)])
                | none => none
              else none
            | _ => none
          | _ => none
        else none
      | none => none
    | _, _ => none
  | _ => none

theorem catBlk_rows {e k : Nat} {f : Nat → Nat → D} {n m : Nat} {sb blk : Blk} (h : catBlk e k (.rows e k n f) n sb m = some blk) : ∃ g, blk = .rows e k (n + m) g := by
  cases sb with
  | cells t k' ys => simp only [catBlk] at h; split at h <;> cases h; exact ⟨_, rfl⟩
  | rows t k' m' g => simp only [catBlk] at h; cases h; exact ⟨_, rfl⟩
  | map => cases h
  | fam => cases h
  | iter => cases h

theorem append_ok {C : Ctx} {o : Oper} {nm : Nat} {v : Operand → SV} {h : Heap} {x : Out} {t : TypeId} {a b : Operand} (ho : o.op = .call { callee := .builtin .append, args := #[a, b], argTypes := #[t, t] }) (e : appendS C.P nm t (v a) (v b) h = some x) : Sound C o nm v h x := by
  have ma : a ∈ o.op.operands := by rw [ho]; simp [Op.operands, Call.operands]
  have mb : b ∈ o.op.operands := by rw [ho]; simp [Op.operands, Call.operands]
  have hexec : ∀ (a' : Act) (w w' : World) (u : Value), (Builtin.append_ #[t, t] o.type #[a'.eval a, a'.eval b]).run C.P w = .ok u w' → (execOp a'.eval o).run C.P w = .ok (.value u) w' := by
    intro a' w w' u hr
    unfold execOp
    simp only [ho, resolve, invoke, builtin, Sem.run_bind, Sem.run_pure, Result.andThen_ok, List.map_toArray, List.map_cons, List.map_nil, hr]
  unfold appendS at e
  split at e
  · next el hel =>
    split at e
    · next inf z hinf hz =>
      obtain ⟨i, zv, hi, hzv, hzl, hlenz, _⟩ := zerosOf_ok hz
      rw [hinf] at hi; obtain rfl := Option.some.inj hi
      have hzs : zv.cells.size = inf.size := by rw [← hlenz, ← hzl, Array.length_toList]
      split at e
      · next vc bs sb m hsrc =>
        split at e
        · next hk =>
          have hk : 0 < inf.size := by simpa using hk
          split at e
          · next hdst =>
            -- nothing there
            have core : ∀ blk : Blk, (∀ M ρ l, CR M ρ inf.size sb m l → CR M ρ inf.size blk m l ∧ blk.withTy el = blk) → (m = 0 → ∃ f, blk = .rows el inf.size 0 f) → Sound C o nm v h (vc ∧ m * inf.bytes ≤ limB ∧ m ≤ maxLen, bs, .sl nm 0 m, [(nm, some blk)]) := by
              intro blk hblk hg
              rintro ⟨hvc, hb, h63⟩
              obtain ⟨s1, s2⟩ := srcS_ok hsrc hvc
              refine ⟨ok_value fun M F ρ a' h w hv hH hbs hfr => ?_, s1, by simp [keysIn]⟩
              obtain ⟨xa, xc, l, hbv, hCR, hfrom⟩ := s2 M F ρ h w _ (hv b mb) hH hbs
              have hav := hv a ma
              rw [hdst] at hav
              obtain ⟨aa, haa⟩ : ∃ aa, a'.eval a = .slice aa 0 0 := by
                cases hav with | d _ _ hd => generalize a'.eval a = q at hd; cases hd with | nils aa => exact ⟨aa, rfl⟩
              obtain ⟨c1, c2⟩ := hblk M ρ l hCR
              rcases Nat.eq_zero_or_pos m with hm | hm
              · obtain ⟨f, rfl⟩ := hg hm
                obtain ⟨ρ', k1, k2, k3, k4⟩ := hH.ghost hfr el inf.size f
                refine ⟨ρ', .slice aa 0 0, w, k1, k2, hexec a' w w _ ?_, ?_, k4, .refl _⟩
                · rw [haa, hbv, hm]; exact run_append_zero hel hinf aa xa 0 0 xc (Nat.le_refl _) w
                · rw [hm]; exact .sl0 nm 0 _ k3 rfl aa
              · have hsrc' : ∃ ad, xa = some ad ∧ ∀ (j : Nat) (u : Value), l[j]? = some u → w.cell? (ad.add j) = some u ∧ u.oneCell' = true := by
                  rcases hfrom with h | h | h
                  · omega
                  · omega
                  · exact h
                obtain ⟨ρ', v', w', k1, k2, k3, k4, k5, k6⟩ := append_none hH hfr (ty := o.type) hel hinf hzv hzs hk aa xa m xc hm c1 c2 hsrc' hb h63
                exact ⟨ρ', v', w', k1, k2, hexec a' w w' _ (by rw [haa, hbv]; exact k3), k4, k5, k6⟩
            split at e
            · next t' k' m' g =>
              cases e
              refine core _ (fun M ρ l hc => ?_) (fun hm => ?_)
              · obtain ⟨rfl, rfl, c3, c4⟩ := hc; exact ⟨⟨rfl, rfl, c3, c4⟩, rfl⟩
              · subst hm
                have hk' : k' = inf.size := by
                  unfold srcS at hsrc
                  split at hsrc
                  · cases hsrc
                  · split at hsrc <;> cases hsrc; rfl
                  · split at hsrc
                    · split at hsrc <;> cases hsrc
                    · split at hsrc <;> cases hsrc; rfl
                    · cases hsrc
                  · cases hsrc
                subst hk'; exact ⟨g, rfl⟩
            · next t' k' xs =>
              split at e
              · next hm =>
                cases e
                refine core _ (fun M ρ l hc => ?_) (fun h0 => ?_)
                · obtain ⟨rfl, c2, c3, c4⟩ := hc; exact ⟨⟨rfl, c2, c3, c4⟩, rfl⟩
                · subst h0; simp at hm
              · cases e
            · cases e
          · next n len hdst =>
            have real : ∀ (blk0 dblk blk : Blk) (M F : Imm) (ρ : Names) (a' : Act) (h : Heap) (w : World), vc → (len + m) * inf.bytes ≤ limB → len + m ≤ maxLen → (∀ x, x ∈ o.op.operands → VR M ρ (v x) (a'.eval x)) → HR M F ρ h w → (∀ p, p ∈ (n, blk0) :: bs → h p.1 = some p.2) →
                (∀ n, nm ≤ n → n < nm + 8 → ρ n = none) → catBlk el inf.size dblk len sb m = some blk →
                (∀ x : Own, ρ n = some x → 0 < x.R → len ≤ x.R → x.R ≤ maxLen → ∃ cur, x.k = inf.size ∧ w.heap[x.b]? = some (.cells cur el (0, 0)) ∧ cur.size = x.R * x.k ∧ CR M ρ inf.size dblk len (cur.toList.take (len * inf.size))) →
                (len = 0 → ∀ x : Own, ρ n = some x → x.R = 0 → ∃ f, dblk = .rows el inf.size 0 f) →
                ∃ ρ' u' w', ρ.le ρ' ∧ (∀ n, n < nm ∨ nm + 8 ≤ n → ρ' n = ρ n) ∧ (execOp a'.eval o).run C.P w = .ok (.value u') w' ∧ VR M ρ' (.sl nm 0 (len + m)) u' ∧ HR M F ρ' (wrH h [(n, none), (nm, some blk)]) w' ∧ Same w w' := by
              intro blk0 dblk blk M F ρ a' h w hvc hb h63 hv hH hbs hfr hcat hreal hghost
              obtain ⟨s1, s2⟩ := srcS_ok hsrc hvc
              obtain ⟨xa, xc, l, hbv, hCR, hfrom⟩ := s2 M F ρ h w _ (hv b mb) hH (fun p hp => hbs p (List.mem_cons_of_mem _ hp))
              have hfrom' : m = 0 ∨ ∃ ad, xa = some ad ∧ ∀ (j : Nat) (u : Value), l[j]? = some u → w.cell? (ad.add j) = some u ∧ u.oneCell' = true := by
                rcases hfrom with h | h | h
                · exact .inl h
                · omega
                · exact .inr h
              have hn := hbs (n, blk0) (List.mem_cons_self ..)
              have hav := hv a ma
              rw [hdst] at hav
              generalize hq : a'.eval a = q at hav
              cases hav with
              | sl _ _ _ x hx hl hR h0 =>
                obtain ⟨cur, c1, c2, c3, c4⟩ := hreal x hx h0 (by omega) hR
                obtain ⟨ρ', v', w', k1, k2, k3, k4, k5, k6⟩ := append_some hH hfr (ty := o.type) hel hinf hzv hzs hk (by rw [hn]; simp) hx h0 hR c1 c2 c3 (by omega) rfl c4 hCR hcat xa xc hfrom' hb h63
                refine ⟨ρ', v', w', k1, k2, hexec a' w w' _ ?_, k4, k5, k6⟩
                rw [hq, hbv]
                simpa using k3
              | sl0 _ _ x hx hR aa =>
                obtain ⟨f, rfl⟩ := hghost rfl x hx hR
                obtain ⟨g, rfl⟩ := catBlk_rows hcat
                have hCR0 : CR M ρ inf.size (.rows el inf.size 0 f) 0 [] := ⟨rfl, rfl, by simp, fun i c hi => by omega⟩
                obtain ⟨c1, c2⟩ := catBlk_ok hk hCR0 hCR hcat
                rw [List.nil_append] at c1
                simp only [Nat.zero_add] at c1 hb h63 ⊢
                rcases Nat.eq_zero_or_pos m with hm | hm
                · subst hm
                  obtain ⟨ρ', k1, k2, k3, k4⟩ := (hH.drop n).ghost hfr el inf.size g
                  refine ⟨ρ', .slice aa 0 0, w, k1, k2, hexec a' w w _ ?_, .sl0 nm 0 _ k3 rfl aa, k4, .refl _⟩
                  rw [hq, hbv]; exact run_append_zero hel hinf aa xa 0 0 xc (Nat.le_refl _) w
                · have hsrc' := hfrom'.resolve_left (by omega)
                  obtain ⟨ρ', v', w', k1, k2, k3, k4, k5, k6⟩ := append_none (hH.drop n) hfr (ty := o.type) hel hinf hzv hzs hk aa xa m xc hm c1 rfl hsrc' hb h63
                  exact ⟨ρ', v', w', k1, k2, hexec a' w w' _ (by rw [hq, hbv]; exact k3), k4, k5, k6⟩
            split at e
            · next ty k' xs hn =>
              split at e
              · next hc =>
                split at e
                · next blk hcat =>
                  cases e
                  rintro ⟨hvc, hb, h63⟩
                  simp only [Bool.and_eq_true] at hc
                  have hk' := Nat.eq_of_beq_eq_true hc.1; subst hk'
                  have hty := Nat.eq_of_beq_eq_true hc.2.1; subst hty
                  have hlen := Nat.eq_of_beq_eq_true hc.2.2
                  obtain ⟨s1, s2⟩ := srcS_ok hsrc hvc
                  refine ⟨ok_value fun M F ρ a' h w hv hH hbs hfr => ?_, ?_, by simp [keysIn]⟩
                  · refine real _ _ blk M F ρ a' h w hvc hb h63 hv hH hbs hfr hcat ?_ ?_
                    · intro x hx h0 hl hR
                      have hn' := hbs _ (List.mem_cons_self ..)
                      obtain ⟨cur, k1, k2, k3, k4, k5, k6⟩ := hH.cells hn' hx
                      refine ⟨cur, k3, k1, by rw [k4, k3], rfl, hlen, ?_, fun j s hs => ?_⟩
                      · rw [List.length_take, Array.length_toList, k4]
                        rw [List.length_take] at hlen; omega
                      · rw [List.getElem?_take] at hs ⊢
                        split at hs
                        · next hj => rw [if_pos hj, Array.getElem?_toList]; exact k6 j s hs
                        · cases hs
                    · intro _ x hx hR0
                      have hn' := hbs _ (List.mem_cons_self ..)
                      obtain ⟨cur, k1, k2, _⟩ := hH.cells hn' hx
                      omega
                  · intro p hp
                    rcases List.mem_cons.1 hp with rfl | hp
                    · exact hn
                    · exact s1 p hp
                · cases e
              · cases e
            · next ty k' L f hn =>
              split at e
              · next hc =>
                split at e
                · next blk hcat =>
                  cases e
                  rintro ⟨hL, hvc, hb, h63⟩
                  simp only [Bool.and_eq_true] at hc
                  have hk' := Nat.eq_of_beq_eq_true hc.1; subst hk'
                  have hty := Nat.eq_of_beq_eq_true hc.2; subst hty
                  obtain ⟨s1, s2⟩ := srcS_ok hsrc hvc
                  refine ⟨ok_value fun M F ρ a' h w hv hH hbs hfr => ?_, ?_, by simp [keysIn]⟩
                  · refine real _ _ blk M F ρ a' h w hvc hb h63 hv hH hbs hfr hcat ?_ ?_
                    · intro x hx h0 hl hR
                      have hn' := hbs _ (List.mem_cons_self ..)
                      obtain ⟨x', hx', hr⟩ := hH.live n _ hn'
                      rw [hx] at hx'; obtain rfl := Option.some.inj hx'
                      rcases hr with ⟨h00, _⟩ | ⟨_, _, _, ob, h3, h4⟩
                      · omega
                      · cases ob with
                        | cells cur T fz =>
                          obtain ⟨rfl, rfl, g1, g2, g3, g4⟩ := h4
                          refine ⟨cur, g1, h3, by rw [g2, g1], rfl, rfl, ?_, fun i c hi hcc => ?_⟩
                          · rw [List.length_take, Array.length_toList, g2]
                            have : len * inf.size ≤ x.R * inf.size := Nat.mul_le_mul_right _ hl
                            omega
                          · obtain ⟨u, u1, u2⟩ := g4 i c (by omega) hcc
                            have : (i + 1) * inf.size ≤ len * inf.size := Nat.mul_le_mul_right _ hi
                            rw [Nat.succ_mul] at this
                            exact ⟨u, by rw [List.getElem?_take, if_pos (by omega), Array.getElem?_toList]; exact u1, u2⟩
                        | _ => exact h4.elim
                    · rintro rfl x hx hR0; exact ⟨f, rfl⟩
                  · intro p hp
                    rcases List.mem_cons.1 hp with rfl | hp
                    · exact hn
                    · exact s1 p hp
                · cases e
              · cases e
            · cases e
          · cases e
        · cases e
      · cases e
    · cases e
  · cases e
end Go.Proofs.YtpdojmebloekgaaDoor.Nice
