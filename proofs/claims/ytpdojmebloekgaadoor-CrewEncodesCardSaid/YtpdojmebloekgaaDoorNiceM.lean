/- Arguments: what a reading of memory says of a value, as data of Lean's own types. -/
import Derived.Test.YtpdojmebloekgaaDoorNiceL
import GoSem.ClaimChange
import Derived.Deep.Slices
import Derived.ChangeSame
namespace Go.Proofs.YtpdojmebloekgaaDoor.Nice
open Go
set_option linter.unusedVariables false

/-- The shape of a Go type: numbers, truths, strings, slices, structs field by field. -/
inductive Sh where
  | int | u8 | bool | str
  | slice (e : Sh)
  | unit
  | pair (a b : Sh)

abbrev Sh.T : Sh → Type
  | .int => Int
  | .u8 => UInt8
  | .bool => Bool
  | .str => ByteArray
  | .slice e => List e.T
  | .unit => Unit
  | .pair a b => a.T × b.T
def Sh.k : Sh → Nat
  | .unit => 0
  | .pair a b => a.k + b.k
  | _ => 1
def Sh.cell : (s : Sh) → s.T → Nat → D
  | .int, n, _ => .val (.int .i64 n)
  | .u8, n, _ => .val (.int .u8 n.toNat)
  | .bool, b, _ => .val (.bool b)
  | .str, s, _ => .val (.string s)
  | .slice e, l, _ => .vec e.k l.length (fun i c => match l[i]? with | some x => e.cell x c | none => .any)
  | .unit, _, _ => .any
  | .pair a b, x, c => if c < a.k then a.cell x.1 c else b.cell x.2 (c - a.k)
def Sh.ok : (s : Sh) → s.T → Prop
  | .int, n => inRange n
  | .str, s => s.size ≤ 9223372036854775807
  | .slice e, l => l.length ≤ 9223372036854775807 ∧ ∀ x, x ∈ l → e.ok x
  | .pair a b, x => a.ok x.1 ∧ b.ok x.2
  | _, _ => True

mutual
def Sh.fits (P : Program) : Sh → TypeId → Prop
  | .int, t => P.underlying t = some (.int .i64)
  | .u8, t => P.underlying t = some (.int .u8)
  | .bool, t => P.underlying t = some .bool
  | .str, t => P.underlying t = some .string
  | .slice e, t => ∃ el, P.underlying t = some (.slice el) ∧ P.cellsOf el = e.k ∧ 0 < e.k ∧ e.fits P el
  | .unit, t => ∃ fs, P.underlying t = some (.struct fs) ∧ fs.toList = [] ∧ P.cellsOf t = 0
  | .pair a b, t => ∃ fs, P.underlying t = some (.struct fs) ∧ P.cellsOf t = a.k + b.k ∧ Sh.fitsF P (.pair a b) fs.toList 0
def Sh.fitsF (P : Program) : Sh → List Field → Nat → Prop
  | .unit, [], _ => True
  | .pair a b, f :: fs, o => f.offset = o ∧ P.cellsOf f.type = a.k ∧ a.fits P f.type ∧ b.fitsF P fs (o + a.k)
  | _, _, _ => False
end

theorem mapM_some {α β : Type} {f : α → Option β} : ∀ {l : List α} {r : List β}, l.mapM f = some r → r.length = l.length ∧ ∀ (i : Nat) (x : α), l[i]? = some x → ∃ y, r[i]? = some y ∧ f x = some y
  | [], r, h => by simp at h; subst h; exact ⟨rfl, fun i x hx => by simp at hx⟩
  | a :: l, r, h => by
    simp only [List.mapM_cons, Option.pure_def, Option.bind_eq_bind, Option.bind_eq_some_iff] at h
    obtain ⟨y, hy, r', hr, h⟩ := h
    simp at h; subst h
    obtain ⟨h1, h2⟩ := mapM_some hr
    refine ⟨by simp [h1], fun i x hx => ?_⟩
    cases i with
    | zero => simp at hx; subst hx; exact ⟨y, rfl, hy⟩
    | succ i => simp at hx; obtain ⟨z, k1, k2⟩ := h2 i x hx; exact ⟨z, by simpa using k1, k2⟩

theorem cells_some {w : World} {base : Nat} {a : Addr} {n : Nat} {cs : List Value} (h : w.cells? base a n = some cs) : cs.length = n ∧ ∀ c, c < n → ∃ v, cs[c]? = some v ∧ w.cell? (a.add c) = some v := by
  unfold World.cells? at h
  split at h
  · obtain ⟨h1, h2⟩ := mapM_some h
    refine ⟨by simpa using h1, fun c hc => ?_⟩
    exact h2 c c (by simp [hc])
  · cases h

def allM (w : World) : Imm := fun b => w.heap[b]?

theorem cell_in {w : World} {a : Addr} {v : Value} (h : w.cell? a = some v) : a.spot = none ∧ ∃ cur T fz, w.heap[a.block]? = some (.cells cur T fz) ∧ cur[a.off]? = some v := by
  unfold World.cell? at h
  split at h
  · next cur T fz hb =>
    split at h
    · cases h
    · next hs => exact ⟨by cases e : a.spot <;> simp_all, cur, T, fz, hb, h⟩
  · cases h

theorem lt_of_wf {n : Int} (h : (Lit.int .i64 n).wf = true) : inRange n := by
  unfold inRange
  simp [Lit.wf, IntKind.min, IntKind.max, IntKind.signed, IntKind.bits] at h
  omega

theorem one_cell {M : Imm} {v : Value} {x : D} (hx : DR M x v) : ∀ c, c < 1 → ∃ u, ([v] : List Value)[c]? = some u ∧ DR M x u := by
  intro c hc
  obtain rfl : c = 0 := by omega
  exact ⟨v, rfl, hx⟩
theorem list_of {α : Type} (p : Nat → α → Prop) : ∀ n, (∀ i, i < n → ∃ x, p i x) → ∃ l : List α, l.length = n ∧ ∀ (i : Nat) (x : α), l[i]? = some x → p i x
  | 0, _ => ⟨[], rfl, fun i x hi => by simp at hi⟩
  | n + 1, h => by
    obtain ⟨l, l1, l2⟩ := list_of p n (fun i hi => h i (by omega))
    obtain ⟨x, hx⟩ := h n (by omega)
    refine ⟨l ++ [x], by simp [l1], fun i y hi => ?_⟩
    by_cases hlt : i < l.length
    · rw [List.getElem?_append_left hlt] at hi; exact l2 i y hi
    · rw [List.getElem?_append_right (by omega)] at hi
      have : i = n := by
        have := (List.getElem?_eq_some_iff.1 hi).1
        simp at this; omega
      subst this
      rw [l1] at hi; simp at hi; subst hi; exact hx

/-- Reading a value of a shape gives data of that shape. -/
theorem trod_open {H : Type} {enc : TypeId × Value → H} {P : Program} {w : World} {base : Nat} {spare : Nat → Bool} {held : Bool} : ∀ (fuel : Nat),
    (∀ (s : Sh) (t : TypeId) (cs : List Value) (d : DataW H) (ps : List MemPlace), s.fits P t → DataW.trod enc P w base spare held fuel t cs = some (d, ps) →
      ∃ a : s.T, s.ok a ∧ cs.length = s.k ∧ ∀ c, c < s.k → ∃ v, cs[c]? = some v ∧ DR (allM w) (s.cell a c) v)
  | 0, s, t, cs, d, ps, _, h => by simp [DataW.trod] at h
  | fuel + 1, s, t, cs, d, ps, hf, h => by
    have ih := trod_open (H := H) (enc := enc) (P := P) (w := w) (base := base) (spare := spare) (held := held) fuel
    have fields : ∀ (s : Sh) (fs : List Field) (o : Nat) (xs : List (DataW H × List MemPlace)), s.fitsF P fs o → o + s.k ≤ cs.length → (fs.mapM fun f => DataW.trod enc P w base spare held fuel f.type ((cs.drop f.offset).take (P.cellsOf f.type))) = some xs →
        ∃ a : s.T, s.ok a ∧ ∀ c, c < s.k → ∃ v, cs[o + c]? = some v ∧ DR (allM w) (s.cell a c) v := by
      intro s
      induction s with
      | unit => intro fs o xs _ _ _; exact ⟨(), trivial, fun c hc => by simp [Sh.k] at hc⟩
      | pair a b _ ihb =>
        intro fs o xs hfs hle hm
        cases fs with
        | nil => simp [Sh.fitsF] at hfs
        | cons f fs =>
          simp only [Sh.fitsF] at hfs
          obtain ⟨h1, h2, h3, h4⟩ := hfs
          simp only [List.mapM_cons, Option.pure_def, Option.bind_eq_bind, Option.bind_eq_some_iff] at hm
          obtain ⟨y, hy, r', hr, _⟩ := hm
          obtain ⟨x, x1, x2, x3⟩ := ih a f.type _ y.1 y.2 h3 hy
          simp only [Sh.k] at hle
          obtain ⟨z, z1, z2⟩ := ihb fs (o + a.k) r' h4 (by omega) hr
          refine ⟨(x, z), ⟨x1, z1⟩, fun c hc => ?_⟩
          simp only [Sh.k] at hc
          simp only [Sh.cell]
          by_cases hca : c < a.k
          · rw [if_pos hca]
            obtain ⟨v, v1, v2⟩ := x3 c hca
            rw [List.getElem?_take, if_pos (by omega), List.getElem?_drop, h1] at v1
            exact ⟨v, v1, v2⟩
          · rw [if_neg hca]
            obtain ⟨v, v1, v2⟩ := z2 (c - a.k) (by omega)
            exact ⟨v, by rw [← v1]; congr 1; omega, v2⟩
      | _ => intro fs o xs hfs; cases fs <;> simp [Sh.fitsF] at hfs
    unfold DataW.trod at h
    cases s with
    | int =>
      simp only [Sh.fits] at hf
      simp only [hf] at h
      split at h <;> (try simp only [reduceCtorEq, Option.some.injEq, TypeDesc.int.injEq] at *)
      next k k' n hk =>
        subst hk
        split at h
        · next hc =>
          obtain ⟨rfl, h2⟩ := hc
          exact ⟨n, lt_of_wf h2, rfl, one_cell (.val _ rfl)⟩
        · cases h
    | u8 =>
      simp only [Sh.fits] at hf
      simp only [hf] at h
      split at h <;> (try simp only [reduceCtorEq, Option.some.injEq, TypeDesc.int.injEq] at *)
      next k k' n hk =>
        subst hk
        split at h
        · next hc =>
          obtain ⟨rfl, h2⟩ := hc
          have hb : 0 ≤ n ∧ n ≤ 255 := by
            simp [Lit.wf, IntKind.min, IntKind.max, IntKind.signed, IntKind.bits] at h2; omega
          have he : (((UInt8.ofNat n.toNat).toNat : Nat) : Int) = n := by
            rw [UInt8.toNat_ofNat']; omega
          refine ⟨UInt8.ofNat n.toNat, trivial, rfl, one_cell (v := .int .u8 n) ?_⟩
          rw [he]; exact .val _ rfl
        · cases h
    | bool =>
      simp only [Sh.fits] at hf
      simp only [hf] at h
      split at h <;> (try simp only [reduceCtorEq, Option.some.injEq] at *)
      next b _ => exact ⟨b, trivial, rfl, one_cell (.val _ rfl)⟩
    | str =>
      simp only [Sh.fits] at hf
      simp only [hf] at h
      split at h <;> (try simp only [reduceCtorEq, Option.some.injEq] at *)
      next b _ =>
        split at h
        · next hc => exact ⟨b, (by simp only [maxLen] at hc; exact hc), rfl, one_cell (.val _ rfl)⟩
        · cases h
    | slice e =>
      simp only [Sh.fits] at hf
      obtain ⟨el, hel, hck, hek0, hfe⟩ := hf
      simp only [hel] at h
      split at h <;> simp only [reduceCtorEq, Option.some.injEq, TypeDesc.slice.injEq] at *
      · next hk =>
        exact ⟨[], ⟨by simp, fun x hx => by simp at hx⟩, rfl, one_cell (.vec0 _ _ _ _)⟩
      · next e' a len cap hk =>
        subst hk
        split at h
        · next hcond =>
          simp only [Option.bind_eq_some_iff, Option.map_eq_some_iff] at h
          obtain ⟨elems, hel2, rest, _, _⟩ := h
          obtain ⟨m1, m2⟩ := mapM_some hel2
          have m1 : elems.length = len := by simpa using m1
          have hx : ∀ i, i < len → ∃ x : e.T, e.ok x ∧ ∀ c, c < e.k → ∃ v, w.cell? (a.add (i * P.cellsOf el) |>.add c) = some v ∧ DR (allM w) (e.cell x c) v := by
            intro i hi
            obtain ⟨y, _, hy⟩ := m2 i i (by simp [hi])
            obtain ⟨cs', hcs', hy⟩ := Option.bind_eq_some_iff.1 hy
            obtain ⟨c1, c2⟩ := cells_some hcs'
            obtain ⟨x, x1, x2, x3⟩ := ih e el cs' y.1 y.2 hfe hy
            refine ⟨x, x1, fun c hc => ?_⟩
            obtain ⟨v, v1, v2⟩ := x3 c hc
            obtain ⟨v', v1', v2'⟩ := c2 c (by omega)
            rw [v1] at v1'; cases v1'
            exact ⟨v, v2', v2⟩
          obtain ⟨l, l1, l2⟩ := list_of (fun i (x : e.T) => e.ok x ∧ ∀ c, c < e.k → ∃ v, w.cell? (a.add (i * P.cellsOf el) |>.add c) = some v ∧ DR (allM w) (e.cell x c) v) len hx
          refine ⟨l, ⟨by have := hcond.2.1; have := hcond.2.2; simp only [maxLen] at this; omega, fun x hx => ?_⟩, rfl, one_cell ?_⟩
          · obtain ⟨i, hi⟩ := List.mem_iff_getElem?.1 hx
            exact (l2 i x hi).1
          · try simp only [Sh.cell]
            rcases Nat.eq_zero_or_pos len with h0 | h0
            · rw [l1, h0]; exact .vec0 _ _ _ _
            · by_cases hek : e.k = 0
              · omega
              · have hi0 : l[0]? = some (l[0]'(by omega)) := List.getElem?_eq_getElem _
                obtain ⟨v0, hv0, _⟩ := (l2 0 _ hi0).2 0 (by omega)
                obtain ⟨b, o, sp⟩ := a
                simp only [Nat.zero_mul, Addr.add, if_true] at hv0
                obtain ⟨hsp, cur, T, fz, hb, _⟩ := cell_in hv0
                simp only at hsp hb
                subst hsp
                rw [l1]
                have hcell : ∀ i c, i < len → c < e.k → ∃ x v, l[i]? = some x ∧ cur[o + i * e.k + c]? = some v ∧ DR (allM w) (e.cell x c) v := by
                  intro i c hi hc
                  have hli : l[i]? = some (l[i]'(by omega)) := List.getElem?_eq_getElem _
                  obtain ⟨v, v1, v2⟩ := (l2 i _ hli).2 c hc
                  rw [Addr.add_lit, Addr.add_lit, hck] at v1
                  have : w.cell? ⟨b, o + i * e.k + c, none⟩ = cur[o + i * e.k + c]? := cell_of_row w b _ cur T fz hb
                  rw [this] at v1
                  exact ⟨_, v, hli, v1, v2⟩
                refine .vec e.k len _ b o cap cur T fz (fun i c => (cur[o + i * e.k + c]?).getD undef) hb hcond.2.1 (fun i c hi hc => ?_) (fun i c hi hc => ?_)
                · obtain ⟨x, v, h1, h2, h3⟩ := hcell i c hi hc
                  rw [h2]; rfl
                · obtain ⟨x, v, h1, h2, h3⟩ := hcell i c hi hc
                  simp only [h1, h2, Option.getD_some]; exact h3
        · cases h
    | unit =>
      simp only [Sh.fits] at hf
      obtain ⟨fs, hfs, _, hk⟩ := hf
      simp only [hfs] at h
      split at h
      · next hl => exact ⟨(), trivial, by rw [hl, hk]; rfl, fun c hc => by simp [Sh.k] at hc⟩
      · cases h
    | pair a b =>
      simp only [Sh.fits] at hf
      obtain ⟨fs, hfs, hk, hff⟩ := hf
      simp only [hfs] at h
      split at h
      · next hl =>
        obtain ⟨xs, hxs, _⟩ := Option.map_eq_some_iff.1 h
        obtain ⟨x, x1, x2⟩ := fields (.pair a b) fs.toList 0 xs hff (by simp only [Sh.k]; omega) hxs
        exact ⟨x, x1, by simp only [Sh.k]; omega, fun c hc => by have := x2 c hc; rwa [Nat.zero_add] at this⟩
      · cases h

/-- An argument that is a slice. -/
theorem arg_slice {H : Type} {enc : TypeId × Value → H} {P : Program} {w : World} {base b0 : Nat} {r : Reach} {spare : Nat → Bool} {held : Bool} (e : Sh) {t : TypeId} {v : Value} {d : DataW H} {ps : List MemPlace} (hf : (Sh.slice e).fits P t)
    (hv : Value.okWide P w r b0 t v) (h : DataW.Trod enc P w base spare held t v d ps) :
    ∃ l : List e.T, (l.length ≤ 9223372036854775807 ∧ ∀ x, x ∈ l → e.ok x) ∧ ∀ ρ, VR (allM w) ρ (.d (.vec e.k l.length (fun i c => match l[i]? with | some x => e.cell x c | none => .any))) v := by
  obtain ⟨fuel, h⟩ := h
  obtain ⟨l, hok, _, hc⟩ := trod_open fuel (.slice e) t _ d ps hf h
  have hf' := hf
  simp only [Sh.fits] at hf'
  obtain ⟨el, hel, _⟩ := hf'
  obtain ⟨a, len, cap, rfl⟩ := WideShapes.okWide_slice hel hv
  obtain ⟨u, hu, hr⟩ := hc 0 (by simp [Sh.k])
  simp [Value.cells] at hu
  subst hu
  exact ⟨l, hok, fun ρ => .d _ _ hr⟩

/-- An argument that is a struct. -/
theorem arg_struct {H : Type} {enc : TypeId × Value → H} {P : Program} {w : World} {base b0 : Nat} {r : Reach} {spare : Nat → Bool} {held : Bool} (s : Sh) {t : TypeId} {fs : Array Field} {v : Value} {d : DataW H} {ps : List MemPlace} (hf : s.fits P t) (hs : P.underlying t = some (.struct fs))
    (hv : Value.okWide P w r b0 t v) (h : DataW.Trod enc P w base spare held t v d ps) :
    ∃ a : s.T, s.ok a ∧ ∀ ρ, VR (allM w) ρ (.agg ((List.range s.k).map fun c => .d (s.cell a c))) v := by
  obtain ⟨fuel, h⟩ := h
  obtain ⟨a, hok, hl, hc⟩ := trod_open fuel s t _ d ps hf h
  unfold Value.okWide at hv
  rw [hs] at hv
  obtain ⟨cs, rfl, _, _⟩ := hv
  refine ⟨a, hok, fun ρ => .aggOf _ _ ?_ fun i x hx => ?_⟩
  · simpa [Value.cells] using hl
  · have hi : i < s.k := by have := (List.getElem?_eq_some_iff.1 hx).1; simpa using this
    obtain ⟨u, hu, hr⟩ := hc i hi
    simp [hi] at hx
    subst hx
    refine ⟨u, ?_, .d _ _ hr⟩
    simpa [Value.cells] using hu

/-- Data written otherwise. -/
theorem DR.vec_congr {M : Imm} {k len : Nat} {f g : Nat → Nat → D} {v : Value} (h : DR M (.vec k len f) v) (e : ∀ i c, i < len → c < k → f i c = g i c) : DR M (.vec k len g) v := by
  cases h with
  | vec0 => exact .vec0 _ _ _ _
  | vec _ _ _ b o cap cur T fz q hb hc hg hr => exact .vec _ _ _ b o cap cur T fz q hb hc hg fun i c hi hcc => by rw [← e i c hi hcc]; exact hr i c hi hcc
theorem VR.vec_congr {M : Imm} {ρ : Names} {k len : Nat} {f g : Nat → Nat → D} {v : Value} (h : VR M ρ (.d (.vec k len f)) v) (e : ∀ i c, i < len → c < k → f i c = g i c) : VR M ρ (.d (.vec k len g)) v := by
  cases h with | d _ _ h => exact .d _ _ (h.vec_congr e)
theorem fit_int {P : Program} {t : TypeId} (h : P.underlying t = some (.int .i64)) : Sh.int.fits P t := by simp only [Sh.fits]; exact h
theorem fit_u8 {P : Program} {t : TypeId} (h : P.underlying t = some (.int .u8)) : Sh.u8.fits P t := by simp only [Sh.fits]; exact h
theorem fit_bool {P : Program} {t : TypeId} (h : P.underlying t = some .bool) : Sh.bool.fits P t := by simp only [Sh.fits]; exact h
theorem fit_str {P : Program} {t : TypeId} (h : P.underlying t = some .string) : Sh.str.fits P t := by simp only [Sh.fits]; exact h
theorem fit_slice {P : Program} {t el : TypeId} {e : Sh} (h : P.underlying t = some (.slice el)) (h1 : P.cellsOf el = e.k) (h2 : 0 < e.k) (h3 : e.fits P el) : (Sh.slice e).fits P t := by
  simp only [Sh.fits]; exact ⟨el, h, h1, h2, h3⟩
theorem fit_pair {P : Program} {t : TypeId} {fs : Array Field} {a b : Sh} (h : P.underlying t = some (.struct fs)) (h1 : P.cellsOf t = a.k + b.k) (h2 : Sh.fitsF P (.pair a b) fs.toList 0) : (Sh.pair a b).fits P t := by
  simp only [Sh.fits]; exact ⟨fs, h, h1, h2⟩
theorem fitF_pair {P : Program} {f : Field} {fs : List Field} {a b : Sh} {o : Nat} (h : f.offset = o) (h1 : P.cellsOf f.type = a.k) (h2 : a.fits P f.type) (h3 : b.fitsF P fs (o + a.k)) : (Sh.pair a b).fitsF P (f :: fs) o := by
  simp only [Sh.fitsF]; exact ⟨h, h1, h2, h3⟩
theorem fitF_unit {P : Program} {o : Nat} : Sh.unit.fitsF P [] o := by simp only [Sh.fitsF]
end Go.Proofs.YtpdojmebloekgaaDoor.Nice
