/- A small memory calculus over the model: data, the call's own blocks by name, and what it means that a world holds them. -/
import Derived.WalkKit
import Derived.Laws.AppendOwn
import Derived.Laws.MakeOwn
import Derived.Laws.CopyRow
import Derived.Below
namespace Go.Proofs.YtpdojmebloekgaaDoor.Nice
open Go
set_option linter.unusedVariables false

abbrev Imm := Nat → Option Obj

def Imm.le (M M' : Imm) : Prop := ∀ b o, M b = some o → M' b = some o
theorem Imm.le_refl (M : Imm) : M.le M := fun _ _ h => h
theorem Imm.le_trans {A B C : Imm} (h : A.le B) (k : B.le C) : A.le C := fun b o x => k b o (h b o x)

/-- What is told of a value by a predicate that lasts. -/
structure MP where
  p : Imm → Value → Prop
  mono : ∀ M M' v, M.le M' → p M v → p M' v
  one : ∀ M v, p M v → v.oneCell' = true

/-- Data: a value that names no block of the call's own. -/
inductive D where
  | any
  | val (v : Value)
  | nils
  | vec (k len : Nat) (f : Nat → Nat → D)
  | pr (p : MP)

/-- A value of the model is such data, where the blocks of M lie still. -/
inductive DR (M : Imm) : D → Value → Prop
  | any (v : Value) (h : v.oneCell' = true) : DR M .any v
  | val (v : Value) (h : v.oneCell' = true) : DR M (.val v) v
  | nils (a : Option Addr) : DR M .nils (.slice a 0 0)
  | vec0 (k : Nat) (f : Nat → Nat → D) (a : Option Addr) (cap : Nat) : DR M (.vec k 0 f) (.slice a 0 cap)
  | vec (k len : Nat) (f : Nat → Nat → D) (b o cap : Nat) (cur : Array Value) (T : TypeId) (fz : Nat × Nat) (g : Nat → Nat → Value)
      (hb : M b = some (.cells cur T fz)) (hc : len ≤ cap) (hg : ∀ i c, i < len → c < k → cur[o + i * k + c]? = some (g i c))
      (hr : ∀ i c, i < len → c < k → DR M (f i c) (g i c)) : DR M (.vec k len f) (.slice (some ⟨b, o, none⟩) len cap)
  | pr (p : MP) (v : Value) (h : p.p M v) : DR M (.pr p) v

theorem DR.mono {M M' : Imm} (hM : M.le M') {x : D} {v : Value} (h : DR M x v) : DR M' x v := by
  induction h with
  | any v h => exact .any v h
  | val v h => exact .val v h
  | nils a => exact .nils a
  | vec0 k f a cap => exact .vec0 k f a cap
  | vec k len f b o cap cur T fz g hb hc hg hr ih => exact .vec k len f b o cap cur T fz g (hM _ _ hb) hc hg ih
  | pr p v h => exact .pr p v (p.mono _ _ _ hM h)

theorem DR.one {M : Imm} {x : D} {v : Value} (h : DR M x v) : v.oneCell' = true := by
  cases h with
  | pr p _ h => exact p.one _ _ h
  | any _ h => exact h
  | val _ h => exact h
  | _ => rfl

/-- Where one of the call's own blocks lies: its number, the width of a row, how many rows. -/
structure Own where
  b : Nat
  k : Nat
  R : Nat

abbrev Names := Nat → Option Own
def Names.le (ρ ρ' : Names) : Prop := ∀ n x, ρ n = some x → ρ' n = some x
theorem Names.le_refl (ρ : Names) : ρ.le ρ := fun _ _ h => h
theorem Names.le_trans {A B C : Names} (h : A.le B) (k : B.le C) : A.le C := fun n x y => k n x (h n x y)

/-- What a slot or a cell of the call's own may hold. -/
inductive SV where
  | any
  | d (x : D)
  | vp (k len : Nat) (f : Nat → Nat → D) (i c : Nat)
  | ptr (n i c : Nat)
  | sl (n o len : Nat)
  | cs (n c len : Nat)
  | op (n : Nat) (b : Bool)
  | map (n : Nat)
  | fn (f : FuncId) (caps : List SV)
  | agg (xs : List SV)
  | tup (xs : List SV)
  | iface (t : TypeId) (x : SV)

abbrev SV.i (n : Int) : SV := .d (.val (.int .i64 n))
abbrev SV.b (x : Bool) : SV := .d (.val (.bool x))

inductive VR (M : Imm) (ρ : Names) : SV → Value → Prop
  | any (v : Value) : VR M ρ .any v
  | d (x : D) (v : Value) (h : DR M x v) : VR M ρ (.d x) v
  | vp (k len : Nat) (f : Nat → Nat → D) (i c b o : Nat) (cur : Array Value) (T : TypeId) (fz : Nat × Nat) (g : Nat → Nat → Value)
      (hb : M b = some (.cells cur T fz)) (hg : ∀ i c, i < len → c < k → cur[o + i * k + c]? = some (g i c))
      (hr : ∀ i c, i < len → c < k → DR M (f i c) (g i c)) : VR M ρ (.vp k len f i c) (.pointer (some ⟨b, o + i * k + c, none⟩))
  | ptr (n i c : Nat) (x : Own) (h : ρ n = some x) : VR M ρ (.ptr n i c) (.pointer (some ⟨x.b, i * x.k + c, none⟩))
  | sl (n o len : Nat) (x : Own) (h : ρ n = some x) (hl : o + len ≤ x.R) (hR : x.R ≤ maxLen) (h0 : 0 < x.R) : VR M ρ (.sl n o len) (.slice (some ⟨x.b, o * x.k, none⟩) len (x.R - o))
  | sl0 (n o : Nat) (x : Own) (h : ρ n = some x) (hR : x.R = o) (a : Option Addr) : VR M ρ (.sl n o 0) (.slice a 0 0)
  | cs (n c len : Nat) (x : Own) (cap : Nat) (h : ρ n = some x) (hc : len ≤ cap) : VR M ρ (.cs n c len) (.slice (some ⟨x.b, c, none⟩) len cap)
  | opY (n : Nat) (x : Own) (h : ρ n = some x) : VR M ρ (.op n true) (.pointer (some ⟨x.b, 0, none⟩))
  | opN (n : Nat) : VR M ρ (.op n false) (.pointer none)
  | map (n : Nat) (x : Own) (h : ρ n = some x) : VR M ρ (.map n) (.map (some x.b))
  | fn (f : FuncId) (caps : List SV) (vs : Array Value) (g : Nat → Value) (hs : vs.size = caps.length) (hg : ∀ i, i < caps.length → vs[i]? = some (g i))
      (hr : ∀ i x, caps[i]? = some x → VR M ρ x (g i)) : VR M ρ (.fn f caps) (.func (.func f) #[] vs)
  | agg (xs : List SV) (vs : Array Value) (g : Nat → Value) (hs : vs.size = xs.length) (hg : ∀ i, i < xs.length → vs[i]? = some (g i))
      (hr : ∀ i x, xs[i]? = some x → VR M ρ x (g i)) : VR M ρ (.agg xs) (.agg vs)
  | tup (xs : List SV) (vs : Array Value) (g : Nat → Value) (hs : vs.size = xs.length) (hg : ∀ i, i < xs.length → vs[i]? = some (g i))
      (hr : ∀ i x, xs[i]? = some x → VR M ρ x (g i)) : VR M ρ (.tup xs) (.tuple vs)
  | iface (t : TypeId) (x : SV) (v : Value) (h : VR M ρ x v) : VR M ρ (.iface t x) (.iface t v)

theorem VR.mono {M M' : Imm} {ρ ρ' : Names} (hM : M.le M') (hρ : ρ.le ρ') {x : SV} {v : Value} (h : VR M ρ x v) : VR M' ρ' x v := by
  induction h with
  | any v => exact .any v
  | d x v h => exact .d x v (h.mono hM)
  | vp k len f i c b o cur T fz g hb hg hr => exact .vp k len f i c b o cur T fz g (hM _ _ hb) hg fun i c hi hc => (hr i c hi hc).mono hM
  | ptr n i c x h => exact .ptr n i c x (hρ _ _ h)
  | sl n o len x h hl hR h0 => exact .sl n o len x (hρ _ _ h) hl hR h0
  | sl0 n o x h hR a => exact .sl0 n o x (hρ _ _ h) hR a
  | cs n c len x cap h hc => exact .cs n c len x cap (hρ _ _ h) hc
  | opY n x h => exact .opY n x (hρ _ _ h)
  | opN n => exact .opN n
  | map n x h => exact .map n x (hρ _ _ h)
  | fn f caps vs g hs hg hr ih => exact .fn f caps vs g hs hg ih
  | agg xs vs g hs hg hr ih => exact .agg xs vs g hs hg ih
  | tup xs vs g hs hg hr ih => exact .tup xs vs g hs hg ih
  | iface t x v h ih => exact .iface t x v ih

/-- Has it one cell? -/
def SV.one : SV → Bool
  | .any | .agg _ | .tup _ => false
  | _ => true
theorem VR.one {M : Imm} {ρ : Names} {x : SV} {v : Value} (h : VR M ρ x v) (hx : x.one = true) : v.oneCell' = true := by
  cases h <;> first | (simp [SV.one] at hx; done) | rfl | (exact DR.one ‹_›)

/-- A block within a family. -/
inductive InB where
  | cells (ty : TypeId) (k : Nat) (xs : List SV)
  | rows (ty : TypeId) (k len : Nat) (f : Nat → Nat → D)
/-- A map, or rows, whose entries' values own blocks: each entry's key, its value and its blocks, told in names of its own; those that are open stand in the call's own names. Of rows: their type and width. -/
structure Fam where
  es : List (Value × SV × List InB)
  op : List (Nat × SV)
  ly : Option (TypeId × Nat)
/-- The value of an entry of what lies there. -/
def entry : Option (TypeId × Nat) → Obj → Nat → Option Value
  | none, .map ents _, j => (ents[j]?).map (·.val)
  | some (_, k), .cells cur _ _, j => if (j + 1) * k ≤ cur.size then some (.agg (cur.extract (j * k) (j * k + k))) else none
  | _, _, _ => none
/-- A shut entry. -/
def Fam.at (e : Fam) (j : Nat) (k : Value) (s : SV) (bl : List InB) : Prop := e.es[j]? = some (k, s, bl) ∧ ∀ p, p ∈ e.op → p.1 ≠ j

inductive Blk where
  | cells (ty : TypeId) (k : Nat) (xs : List SV)
  | rows (ty : TypeId) (k len : Nat) (f : Nat → Nat → D)
  | map (es : List (Value × D))
  | fam (S : List Nat) (es : Fam)
  | iter (m : SV) (since : Nat) (seen : List Nat)
def InB.blk : InB → Blk
  | .cells ty k xs => .cells ty k xs
  | .rows ty k len f => .rows ty k len f
/-- A row that is not there: an empty slice without memory. -/
def Blk.ghost : Blk → Bool
  | .rows _ _ 0 _ => true
  | _ => false

/-- The object that lies there is the block. -/
def BR (M : Imm) (ρ : Names) (x : Own) : Blk → Obj → Prop
  | .cells ty k xs, .cells cur T fz => T = ty ∧ fz = (0, 0) ∧ x.k = k ∧ cur.size = x.R * k ∧ xs.length ≤ cur.size ∧ ∀ (j : Nat) (s : SV), xs[j]? = some s → ∃ v, cur[j]? = some v ∧ VR M ρ s v
  | .rows ty k len f, .cells cur T fz => T = ty ∧ fz = (0, 0) ∧ x.k = k ∧ cur.size = x.R * k ∧ len ≤ x.R ∧ ∀ i c, i < len → c < k → ∃ v, cur[i * k + c]? = some v ∧ DR M (f i c) v
  | .map es, .map ents cl => (ents.size = es.length ∧ cl = ents.size) ∧ ∀ (j : Nat) (e : Value × D), es[j]? = some e → ∃ y : MapEntry, ents[j]? = some y ∧ y.key = e.1 ∧ DR M e.2 y.val ∧ y.born = j
  | .fam _ es, .map ents cl => es.ly = none ∧ (ents.size = es.es.length ∧ cl = ents.size) ∧ (∀ (j : Nat) (e : Value × SV × List InB), es.es[j]? = some e → ∃ y : MapEntry, ents[j]? = some y ∧ y.key = e.1 ∧ y.born = j) ∧ ∀ p, p ∈ es.op → ∃ y : MapEntry, ents[p.1]? = some y ∧ VR M ρ p.2 y.val
  | .fam _ es, .cells cur T fz => (es.ly = some (T, x.k) ∧ fz = (0, 0) ∧ cur.size = x.R * x.k ∧ es.es.length ≤ x.R) ∧ ∀ p, p ∈ es.op → ∃ v, entry es.ly (.cells cur T fz) p.1 = some v ∧ VR M ρ p.2 v
  | .iter m since seen, .mapIter mp since' seen' cl => VR M ρ m (.map mp) ∧ since' = since ∧ seen'.toList = seen ∧ cl = since
  | _, _ => False

theorem BR.mono {M M' : Imm} {ρ ρ' : Names} (hM : M.le M') (hρ : ρ.le ρ') {x : Own} {b : Blk} {o : Obj} (h : BR M ρ x b o) : BR M' ρ' x b o := by
  cases b with
  | cells ty k xs => cases o with
    | cells cur T fz =>
      obtain ⟨h1, h2, h3, h4, h5, h6⟩ := h
      exact ⟨h1, h2, h3, h4, h5, fun j s hs => let ⟨v, hv, hr⟩ := h6 j s hs; ⟨v, hv, hr.mono hM hρ⟩⟩
    | _ => exact h.elim
  | rows ty k len f => cases o with
    | cells cur T fz =>
      obtain ⟨h1, h2, h3, h4, h5, h6⟩ := h
      exact ⟨h1, h2, h3, h4, h5, fun i c hi hc => let ⟨v, hv, hr⟩ := h6 i c hi hc; ⟨v, hv, hr.mono hM⟩⟩
    | _ => exact h.elim
  | map es => cases o with
    | map ents cl =>
      obtain ⟨h1, h2⟩ := h
      exact ⟨h1, fun j e he => let ⟨y, hy, hk, hr, hb⟩ := h2 j e he; ⟨y, hy, hk, hr.mono hM, hb⟩⟩
    | _ => exact h.elim
  | fam S es => cases o with
    | map ents cl =>
      obtain ⟨h0, h1, h2, h3⟩ := h
      exact ⟨h0, h1, h2, fun p hp => let ⟨y, hy, hr⟩ := h3 p hp; ⟨y, hy, hr.mono hM hρ⟩⟩
    | cells cur T fz =>
      obtain ⟨h1, h3⟩ := h
      exact ⟨h1, fun p hp => let ⟨y, hy, hr⟩ := h3 p hp; ⟨y, hy, hr.mono hM hρ⟩⟩
    | _ => exact h.elim
  | iter m since seen => cases o with
    | mapIter mp s' seen' cl => exact ⟨h.1.mono hM hρ, h.2⟩
    | _ => exact h.elim

theorem entry_map {ents : Array MapEntry} {cl j : Nat} {v : Value} : entry none (.map ents cl) j = some v ↔ ∃ y, ents[j]? = some y ∧ y.val = v := by
  simp [entry, Option.map_eq_some_iff]
/-- An open entry of a family. -/
theorem BR.open {M : Imm} {ρ : Names} {x : Own} {S : List Nat} {es : Fam} {o : Obj} (h : BR M ρ x (.fam S es) o) {p : Nat × SV} (hp : p ∈ es.op) : ∃ v, entry es.ly o p.1 = some v ∧ VR M ρ p.2 v := by
  cases o with
  | map ents cl =>
    obtain ⟨h0, _, _, h3⟩ := h
    obtain ⟨y, hy, hr⟩ := h3 p hp
    exact ⟨y.val, by rw [h0]; exact entry_map.2 ⟨y, hy, rfl⟩, hr⟩
  | cells cur T fz => exact h.2 p hp
  | _ => exact h.elim
theorem BR.famOp {M M' : Imm} {ρ ρ' : Names} {x : Own} {S S' : List Nat} {es : List (Value × SV × List InB)} {op op' : List (Nat × SV)} {ly : Option (TypeId × Nat)} {o : Obj} (h : BR M ρ x (.fam S ⟨es, op, ly⟩) o)
    (hop : ∀ p, p ∈ op' → ∃ v, entry ly o p.1 = some v ∧ VR M' ρ' p.2 v) : BR M' ρ' x (.fam S' ⟨es, op', ly⟩) o := by
  cases o with
  | map ents cl =>
    obtain ⟨h0, h1, h2, _⟩ := h
    refine ⟨h0, h1, h2, fun p hp => ?_⟩
    obtain ⟨v, hv, hr⟩ := hop p hp
    have h0 : ly = none := h0
    rw [h0] at hv
    obtain ⟨y, hy, rfl⟩ := entry_map.1 hv
    exact ⟨y, hy, hr⟩
  | cells cur T fz => exact ⟨h.1, hop⟩
  | _ => exact h.elim
theorem BR.famSet {M : Imm} {ρ : Names} {x : Own} {S S' : List Nat} {es : List (Value × SV × List InB)} {op : List (Nat × SV)} {ly : Option (TypeId × Nat)} {o : Obj} (h : BR M ρ x (.fam S ⟨es, op, ly⟩) o) {j : Nat} {k : Value} {e0 e1 : SV × List InB}
    (hj : es[j]? = some (k, e0)) : BR M ρ x (.fam S' ⟨es.set j (k, e1), [], ly⟩) o := by
  cases o with
  | map ents cl =>
    obtain ⟨h0, ⟨h1, h1'⟩, h2, _⟩ := h
    refine ⟨h0, ⟨by rw [List.length_set]; exact h1, h1'⟩, fun q e he => ?_, fun p hp => by cases hp⟩
    replace he : (es.set j (k, e1))[q]? = some e := he
    rw [List.getElem?_set] at he
    split at he
    · next hq =>
      subst hq
      split at he
      · cases he
        obtain ⟨y', y1, y2⟩ := h2 j _ hj
        exact ⟨y', y1, y2⟩
      · cases he
    · exact h2 q e he
  | cells cur T fz =>
    obtain ⟨⟨h1, h2, h3, h4⟩, _⟩ := h
    exact ⟨⟨h1, h2, h3, by rw [List.length_set]; exact h4⟩, fun p hp => by cases hp⟩
  | _ => exact h.elim
/-- What is shut away in a family: each entry's value and blocks, in names of its own, in blocks that S lists. -/
def FR (M : Imm) (w : World) (b : Nat) (S : List Nat) (es : Fam) : Prop :=
  ∃ ρs : Nat → Names,
    (∀ (j : Nat) (k : Value) (s : SV) (bl : List InB), es.at j k s bl →
      (∃ o v, w.heap[b]? = some o ∧ entry es.ly o j = some v ∧ VR M (ρs j) s v) ∧
      ∀ (i : Nat) (c : InB), bl[i]? = some c → ∃ z, ρs j i = some z ∧ ((z.R = 0 ∧ c.blk.ghost = true) ∨ (0 < z.R ∧ z.b ∈ S ∧ ∃ o, w.heap[z.b]? = some o ∧ BR M (ρs j) z c.blk o))) ∧
    (∀ (j j' : Nat) (k k' : Value) (s s' : SV) (bl bl' : List InB) (i i' : Nat) (c c' : InB) (z z' : Own), es.at j k s bl → es.at j' k' s' bl' → bl[i]? = some c → bl'[i']? = some c' →
      ρs j i = some z → ρs j' i' = some z' → 0 < z.R → 0 < z'.R → z.b = z'.b → j = j' ∧ i = i')


abbrev Heap := Nat → Option Blk

structure HR (M F : Imm) (ρ : Names) (h : Heap) (w : World) : Prop where
  imm : ∀ b o, M b = some o → w.heap[b]? = some o
  frm : ∀ b o, F b = some o → w.heap[b]? = some o
  dis : ∀ b o, F b = some o → M b = none
  live : ∀ n blk, h n = some blk → ∃ x, ρ n = some x ∧ ((x.R = 0 ∧ blk.ghost = true) ∨
    (0 < x.R ∧ M x.b = none ∧ F x.b = none ∧ ∃ obj, w.heap[x.b]? = some obj ∧ BR M ρ x blk obj))
  sep : ∀ n m x y, h n ≠ none → h m ≠ none → ρ n = some x → ρ m = some y → 0 < x.R → 0 < y.R → x.b = y.b → n = m
  fam : ∀ n S es, h n = some (.fam S es) → ∃ x, ρ n = some x ∧ 0 < x.R ∧ (∀ b, b ∈ S → M b = none ∧ F b = none ∧ b < w.heap.size) ∧
    (∀ m y, h m ≠ none → ρ m = some y → 0 < y.R → y.b ∉ S) ∧ (∀ m S' es', m ≠ n → h m = some (.fam S' es') → ∀ b, b ∈ S → b ∉ S') ∧ FR M w x.b S es

/-- The families' contents last where their blocks lie still. -/
theorem FR.last {M M' : Imm} {w w' : World} {b : Nat} {S : List Nat} {es : Fam} (h : FR M w b S es) (hM : M.le M') (hw : ∀ c, c = b ∨ c ∈ S → w'.heap[c]? = w.heap[c]?) : FR M' w' b S es := by
  obtain ⟨ρs, h1, h2⟩ := h
  refine ⟨ρs, fun j k s bl hj => ?_, h2⟩
  obtain ⟨⟨ob, y, e1, e2, e3⟩, h3⟩ := h1 j k s bl hj
  refine ⟨⟨ob, y, by rw [hw b (.inl rfl)]; exact e1, e2, e3.mono hM (Names.le_refl _)⟩, fun i c hc => ?_⟩
  obtain ⟨z, hz, hr⟩ := h3 i c hc
  refine ⟨z, hz, ?_⟩
  rcases hr with hr | ⟨g0, g1, o, g2, g3⟩
  · exact .inl hr
  · exact .inr ⟨g0, g1, o, by rw [hw _ (.inr g1)]; exact g2, g3.mono hM (Names.le_refl _)⟩
theorem FR.shuts {M : Imm} {w : World} {b : Nat} {S : List Nat} {es es' : Fam} (h : FR M w b S es) (hl : es'.ly = es.ly) (he : ∀ (j : Nat) (k : Value) (s : SV) (bl : List InB), es'.at j k s bl → ∃ k', es.at j k' s bl) : FR M w b S es' := by
  obtain ⟨ρs, h1, h2⟩ := h
  refine ⟨ρs, fun j k s bl hj => ?_, ?_⟩
  · obtain ⟨k', hk⟩ := he j k s bl hj
    rw [hl]
    exact h1 j k' s bl hk
  · intro j j' k k' s s' bl bl' i i' c c' z z' hj hj'
    obtain ⟨k1, e1⟩ := he j k s bl hj
    obtain ⟨k2, e2⟩ := he j' k' s' bl' hj'
    exact h2 j j' k1 k2 s s' bl bl' i i' c c' z z' e1 e2

/-- The families' side, carried over a change that leaves them be. -/
theorem HR.famKeep {M F : Imm} {ρ : Names} {h : Heap} {w : World} (H : HR M F ρ h w) {M' F' : Imm} {ρ' : Names} {h' : Heap} {w' : World}
    (hh : ∀ n S es, h' n = some (.fam S es) → h n = some (.fam S es)) (hρ : ρ.le ρ') (hM : M.le M') (hsz : w.heap.size ≤ w'.heap.size)
    (hMF : ∀ n S es, h n = some (.fam S es) → ∀ b, b ∈ S → M b = none → F b = none → M' b = none ∧ F' b = none)
    (hw : ∀ n S es x c, h' n = some (.fam S es) → h n = some (.fam S es) → ρ n = some x → 0 < x.R → (c = x.b ∨ c ∈ S) → w'.heap[c]? = w.heap[c]?)
    (hn : ∀ n S es m y, h n = some (.fam S es) → h' m ≠ none → ρ' m = some y → 0 < y.R → (h m ≠ none ∧ ρ m = some y) ∨ y.b ∉ S) :
    ∀ n S es, h' n = some (.fam S es) → ∃ x, ρ' n = some x ∧ 0 < x.R ∧ (∀ b, b ∈ S → M' b = none ∧ F' b = none ∧ b < w'.heap.size) ∧
      (∀ m y, h' m ≠ none → ρ' m = some y → 0 < y.R → y.b ∉ S) ∧ (∀ m S' es', m ≠ n → h' m = some (.fam S' es') → ∀ b, b ∈ S → b ∉ S') ∧ FR M' w' x.b S es := by
  intro n S es hf
  have hf0 := hh n S es hf
  obtain ⟨x, hx, h0, h1, h2, h3, h4⟩ := H.fam n S es hf0
  refine ⟨x, hρ n x hx, h0, fun b hb => ?_, fun m y hm hy h0y => ?_, fun m S' es' hmn hm => h3 m S' es' hmn (hh m S' es' hm), h4.last hM (fun c hc => hw n S es x c hf hf0 hx h0 hc)⟩
  · obtain ⟨g1, g2, g3⟩ := h1 b hb
    have := hMF n S es hf0 b hb g1 g2
    exact ⟨this.1, this.2, by omega⟩
  · rcases hn n S es m y hf0 hm hy h0y with ⟨k1, k2⟩ | k
    · exact h2 m y k1 k2 h0y
    · exact k

structure Same (w w' : World) : Prop where
  os : w'.os = w.os
  tape : w'.tape = w.tape
  output : w'.output = w.output
  size : w.heap.size ≤ w'.heap.size
theorem Same.refl (w : World) : Same w w := ⟨rfl, rfl, rfl, Nat.le_refl _⟩
theorem Same.trans {a b c : World} (h : Same a b) (k : Same b c) : Same a c := ⟨k.os.trans h.os, k.tape.trans h.tape, k.output.trans h.output, Nat.le_trans h.size k.size⟩
theorem Same.alloc (w : World) (o : Obj) : Same w (w.alloc o) := ⟨rfl, rfl, rfl, by simp⟩
theorem Same.setCell (w : World) (a : Addr) (v : Value) : Same w (w.setCell a v) := ⟨rfl, rfl, rfl, by simp⟩

def upd {α : Type} (h : Nat → α) (n : Nat) (b : α) : Nat → α := fun m => bif Nat.beq m n then b else h m
@[simp] theorem upd_same {α : Type} (h : Nat → α) (n : Nat) (b : α) : upd h n b n = b := by simp [upd]
theorem upd_other {α : Type} (h : Nat → α) (n m : Nat) (b : α) (e : m ≠ n) : upd h n b m = h m := by
  unfold upd; cases hb : Nat.beq m n
  · rfl
  · exact absurd (Nat.eq_of_beq_eq_true hb) e
theorem upd_eq {α : Type} (h : Nat → α) (n m : Nat) (b : α) : upd h n b m = if m = n then b else h m := by
  by_cases e : m = n
  · subst e; simp
  · rw [upd_other _ _ _ _ e, if_neg e]
theorem upd_comm {α : Type} (h : Nat → α) (n m : Nat) (b c : α) (e : n ≠ m) : upd (upd h n b) m c = upd (upd h m c) n b := by
  funext k; simp only [upd_eq]; split <;> split <;> simp_all

def wrH (h : Heap) : List (Nat × Option Blk) → Heap
  | [] => h
  | (n, b) :: r => wrH (upd h n b) r

/-- The world after a draw holds the same. -/
theorem HR.drawn {M F : Imm} {ρ : Names} {h : Heap} {w : World} (H : HR M F ρ h w) (n : Nat) : HR M F ρ h { w with drawn := n } :=
  ⟨H.imm, H.frm, H.dis, H.live, H.sep, H.famKeep (fun _ _ _ h => h) (Names.le_refl _) (Imm.le_refl _) (Nat.le_refl _) (fun _ _ _ _ _ _ a b => ⟨a, b⟩) (fun _ _ _ _ _ _ _ _ _ _ => rfl) (fun _ _ _ m y _ a b _ => .inl ⟨a, b⟩)⟩

/-- A new block of the call's own. -/
theorem HR.push {M F : Imm} {ρ : Names} {h : Heap} {w : World} (H : HR M F ρ h w) (n : Nat) (hn : ρ n = none) (k R : Nat) (hR : 0 < R) (blk : Blk) (obj : Obj)
    (hF : ∀ b, w.heap.size ≤ b → M b = none ∧ F b = none)
    (hB : ∀ ρ' : Names, ρ.le ρ' → BR M ρ' ⟨w.heap.size, k, R⟩ blk obj) (hfm : ∀ S es, blk ≠ .fam S es := by intro S es h; cases h) :
    ∃ ρ' : Names, ρ' = (fun m => if m = n then some ⟨w.heap.size, k, R⟩ else ρ m) ∧ ρ.le ρ' ∧ HR M F ρ' (upd h n (some blk)) (w.alloc obj) := by
  refine ⟨_, rfl, ?_, ?_⟩
  · intro m x hx
    have : m ≠ n := by rintro rfl; rw [hn] at hx; cases hx
    simp [this, hx]
  have hle : ρ.le (fun m => if m = n then some ⟨w.heap.size, k, R⟩ else ρ m) := by
    intro m x hx
    have : m ≠ n := by rintro rfl; rw [hn] at hx; cases hx
    simp [this, hx]
  have old : ∀ (b : Nat) (o : Obj), w.heap[b]? = some o → (w.alloc obj).heap[b]? = some o := by
    intro b o hb
    rw [heap_alloc_old w obj (h := (Array.getElem?_eq_some_iff.1 hb).1)]; exact hb
  have lt : ∀ (b : Nat) (o : Obj), w.heap[b]? = some o → b < w.heap.size := fun b o hb => (Array.getElem?_eq_some_iff.1 hb).1
  refine ⟨fun b o hb => old _ _ (H.imm _ _ hb), fun b o hb => old _ _ (H.frm _ _ hb), H.dis, ?_, ?_, ?_⟩
  rotate_right
  · refine H.famKeep (fun m S es hm => ?_) hle (Imm.le_refl _) (by simp) (fun _ _ _ _ _ _ a b => ⟨a, b⟩) (fun m S es x c _ hm hx h0 hc => ?_) (fun m S es p y hm hp hy h0 => ?_)
    · rw [upd_eq] at hm
      split at hm
      · exact absurd (Option.some.inj hm) (hfm S es)
      · exact hm
    · have hlt : c < w.heap.size := by
        rcases hc with rfl | hc
        · obtain ⟨x', hx', hr⟩ := H.live m _ hm
          rw [hx] at hx'; cases hx'
          rcases hr with ⟨h00, _⟩ | ⟨_, _, _, o, h3, _⟩
          · omega
          · exact lt _ _ h3
        · obtain ⟨_, _, _, h1, _⟩ := H.fam m S es hm
          exact (h1 c hc).2.2
      rw [heap_alloc_old w obj (h := hlt)]
    · by_cases e : p = n
      · subst e
        simp at hy; subst hy
        refine .inr fun hb => ?_
        obtain ⟨_, _, _, h1, _⟩ := H.fam m S es hm
        have := (h1 _ hb).2.2
        exact absurd this (Nat.lt_irrefl _)
      · simp only [e, if_false] at hy
        rw [upd_other _ _ _ _ e] at hp
        exact .inl ⟨hp, hy⟩
  · intro m b hm
    rw [upd_eq] at hm
    split at hm
    · next e =>
      subst e; cases hm
      exact ⟨_, by simp, .inr ⟨hR, (hF _ (Nat.le_refl _)).1, (hF _ (Nat.le_refl _)).2, obj, heap_alloc_new w obj, hB _ hle⟩⟩
    · next e =>
      obtain ⟨x, hx, hr⟩ := H.live m b hm
      refine ⟨x, by simp [e, hx], ?_⟩
      rcases hr with hr | ⟨h0, h1, h2, o, h3, h4⟩
      · exact .inl hr
      · exact .inr ⟨h0, h1, h2, o, old _ _ h3, h4.mono (Imm.le_refl _) hle⟩
  · intro p q x y hp hq hx hy h0x h0y hb
    simp only [upd_eq] at hp hq
    by_cases ep : p = n <;> by_cases eq : q = n
    · rw [ep, eq]
    · simp only [ep, if_true] at hx; simp only [eq, if_false] at hy hq
      cases hx
      obtain ⟨b2, hb2⟩ := Option.ne_none_iff_exists'.1 hq
      obtain ⟨x', hx', hr⟩ := H.live q b2 hb2
      rw [hy] at hx'; cases hx'
      rcases hr with ⟨h0, _⟩ | ⟨_, _, _, o, h3, _⟩
      · omega
      · have := lt _ _ h3; simp at hb; omega
    · simp only [eq, if_true] at hy; simp only [ep, if_false] at hx hp
      cases hy
      obtain ⟨b2, hb2⟩ := Option.ne_none_iff_exists'.1 hp
      obtain ⟨x', hx', hr⟩ := H.live p b2 hb2
      rw [hx] at hx'; cases hx'
      rcases hr with ⟨h0, _⟩ | ⟨_, _, _, o, h3, _⟩
      · omega
      · have := lt _ _ h3; simp at hb; omega
    · simp only [ep, eq, if_false] at hx hy hp hq
      exact H.sep p q x y hp hq hx hy h0x h0y hb

/-- The blocks that M and F speak of are there. -/
theorem HR.beyond {M F : Imm} {ρ : Names} {h : Heap} {w : World} (H : HR M F ρ h w) : ∀ b, w.heap.size ≤ b → M b = none ∧ F b = none := by
  intro b hb
  constructor
  · cases e : M b with
    | none => rfl
    | some o => have := (Array.getElem?_eq_some_iff.1 (H.imm b o e)).1; omega
  · cases e : F b with
    | none => rfl
    | some o => have := (Array.getElem?_eq_some_iff.1 (H.frm b o e)).1; omega

/-- A live block's contents are turned in place: the object at its number alone is another one. -/
theorem HR.put {M F : Imm} {ρ : Names} {h : Heap} {w w' : World} (H : HR M F ρ h w) (n : Nat) (x : Own) (hn : h n ≠ none) (hx : ρ n = some x) (h0 : 0 < x.R) (blk : Blk) (obj : Obj)
    (hw : w'.heap[x.b]? = some obj) (ho : ∀ b, b ≠ x.b → w'.heap[b]? = w.heap[b]?) (hB : BR M ρ x blk obj) (hfm : ∀ S es, blk ≠ .fam S es := by intro S es h; cases h) (hsz : w.heap.size ≤ w'.heap.size := by simp) : HR M F ρ (upd h n (some blk)) w' := by
  obtain ⟨b0, hb0⟩ := Option.ne_none_iff_exists'.1 hn
  obtain ⟨x', hx', hr⟩ := H.live n b0 hb0
  rw [hx] at hx'; cases hx'
  rcases hr with ⟨h00, _⟩ | ⟨_, hM, hF, o0, ho0, hB0⟩
  · omega
  have old : ∀ (b : Nat) (o : Obj), (M b = some o ∨ F b = some o) → w.heap[b]? = some o → w'.heap[b]? = some o := by
    intro b o hmf hb
    rw [ho b ?_]; exact hb
    rintro rfl
    rcases hmf with e | e
    · rw [hM] at e; cases e
    · rw [hF] at e; cases e
  refine ⟨fun b o hb => old _ _ (.inl hb) (H.imm _ _ hb), fun b o hb => old _ _ (.inr hb) (H.frm _ _ hb), H.dis, ?_, ?_, ?_⟩
  rotate_right
  · refine H.famKeep (fun m S es hm => ?_) (Names.le_refl _) (Imm.le_refl _) hsz (fun _ _ _ _ _ _ a b => ⟨a, b⟩) (fun m S es y c hm' hm hy h0y hc => ?_) (fun m S es p y hm hp hy h0y => ?_)
    · rw [upd_eq] at hm
      split at hm
      · exact absurd (Option.some.inj hm) (hfm S es)
      · exact hm
    · refine ho c ?_
      rintro rfl
      have hne : m ≠ n := by
        rintro rfl
        rw [upd_same] at hm'
        exact hfm S es (Option.some.inj hm')
      rcases hc with hc | hc
      · exact hne (H.sep m n y x (by rw [hm]; simp) (by rw [hb0]; simp) hy hx h0y h0 hc.symm)
      · obtain ⟨_, _, _, _, h2, _⟩ := H.fam m S es hm
        exact h2 n x (by rw [hb0]; simp) hx h0 hc
    · refine .inl ⟨?_, hy⟩
      intro e; rw [upd_eq] at hp; split at hp
      · next e2 => subst e2; rw [hb0] at e; cases e
      · exact hp e
  · intro m b hm
    rw [upd_eq] at hm
    split at hm
    · next e => subst e; cases hm; exact ⟨x, hx, .inr ⟨h0, hM, hF, obj, hw, hB⟩⟩
    · next e =>
      obtain ⟨y, hy, hr⟩ := H.live m b hm
      refine ⟨y, hy, ?_⟩
      rcases hr with hr | ⟨g0, h1, h2, o, h3, h4⟩
      · exact .inl hr
      · refine .inr ⟨g0, h1, h2, o, ?_, h4⟩
        rw [ho y.b ?_]; exact h3
        intro hb
        exact e (H.sep m n y x (by rw [hm]; simp) hn hy hx g0 h0 hb)
  · intro p q a b hp hq
    have pp : h p ≠ none := by
      intro e; rw [upd_eq] at hp; split at hp
      · next e2 => subst e2; exact hn e
      · exact hp e
    have qq : h q ≠ none := by
      intro e; rw [upd_eq] at hq; split at hq
      · next e2 => subst e2; exact hn e
      · exact hq e
    exact H.sep p q a b pp qq

/-- Another object beside. -/
theorem HR.beside {M F : Imm} {ρ : Names} {h : Heap} {w : World} (H : HR M F ρ h w) (obj : Obj) : HR M F ρ h (w.alloc obj) := by
  have old : ∀ (b : Nat) (o : Obj), w.heap[b]? = some o → (w.alloc obj).heap[b]? = some o := by
    intro b o hb
    rw [heap_alloc_old w obj (h := (Array.getElem?_eq_some_iff.1 hb).1)]; exact hb
  refine ⟨fun b o hb => old _ _ (H.imm _ _ hb), fun b o hb => old _ _ (H.frm _ _ hb), H.dis, fun m b hm => ?_, H.sep, ?_⟩
  · obtain ⟨x, hx, hr⟩ := H.live m b hm
    refine ⟨x, hx, ?_⟩
    rcases hr with hr | ⟨h0, h1, h2, o, h3, h4⟩
    · exact .inl hr
    · exact .inr ⟨h0, h1, h2, o, old _ _ h3, h4⟩
  · refine H.famKeep (fun _ _ _ h => h) (Names.le_refl _) (Imm.le_refl _) (by simp) (fun _ _ _ _ _ _ a b => ⟨a, b⟩) (fun m S es x c _ hm hx h0 hc => ?_) (fun _ _ _ m y _ a b _ => .inl ⟨a, b⟩)
    have hlt : c < w.heap.size := by
      rcases hc with rfl | hc
      · obtain ⟨x', hx', hr⟩ := H.live m _ hm
        rw [hx] at hx'; cases hx'
        rcases hr with ⟨h00, _⟩ | ⟨_, _, _, o, h3, _⟩
        · omega
        · exact (Array.getElem?_eq_some_iff.1 h3).1
      · obtain ⟨_, _, _, h1, _⟩ := H.fam m S es hm
        exact (h1 c hc).2.2
    rw [heap_alloc_old w obj (h := hlt)]

/-- Memory laid still: some blocks pass into M. -/
theorem HR.stills {M F : Imm} {ρ : Names} {h : Heap} {w : World} (H : HR M F ρ h w) {M' : Imm} {h' : Heap} (hM : M.le M') (hh : ∀ n b, h' n = some b → h n = some b) (hi : ∀ b o, M' b = some o → w.heap[b]? = some o) (hd : ∀ b o, F b = some o → M' b = none)
    (hl : ∀ n b x, h' n = some b → ρ n = some x → 0 < x.R → M' x.b = none) (hS : ∀ n S es, h' n = some (.fam S es) → ∀ b, b ∈ S → M' b = none) : HR M' F ρ h' w := by
  refine ⟨hi, H.frm, hd, fun n b hn => ?_, fun n m x y hn hm => H.sep n m x y (fun e => hn ?_) (fun e => hm ?_), ?_⟩
  · obtain ⟨x, hx, hr⟩ := H.live n b (hh n b hn)
    refine ⟨x, hx, ?_⟩
    rcases hr with hr | ⟨h0, h1, h2, o, h3, h4⟩
    · exact .inl hr
    · exact .inr ⟨h0, hl n b x hn hx h0, h2, o, h3, h4.mono hM (Names.le_refl _)⟩
  · cases e2 : h' n with
    | none => rfl
    | some b => rw [hh n b e2] at e; cases e
  · cases e2 : h' m with
    | none => rfl
    | some b => rw [hh m b e2] at e; cases e
  · intro n S es hn
    obtain ⟨x, hx, g0, g1, g2, g3, g4⟩ := H.fam n S es (hh n _ hn)
    refine ⟨x, hx, g0, fun b hb => ⟨hS n S es hn b hb, (g1 b hb).2⟩, fun m y hm hy h0 => g2 m y (fun e => hm ?_) hy h0, fun m S' es' hmn hm => g3 m S' es' hmn (hh m _ hm), g4.last hM (fun _ _ => rfl)⟩
    cases e2 : h' m with
    | none => rfl
    | some b => rw [hh m b e2] at e; cases e

/-- A block that is no longer spoken of. -/
theorem HR.drop {M F : Imm} {ρ : Names} {h : Heap} {w : World} (H : HR M F ρ h w) (n : Nat) : HR M F ρ (upd h n none) w := by
  refine ⟨H.imm, H.frm, H.dis, ?_, ?_, ?_⟩
  rotate_right
  · refine H.famKeep (fun m S es hm => ?_) (Names.le_refl _) (Imm.le_refl _) (Nat.le_refl _) (fun _ _ _ _ _ _ a b => ⟨a, b⟩) (fun _ _ _ _ _ _ _ _ _ _ => rfl) (fun m S es p y hm hp hy h0y => .inl ⟨fun e => ?_, hy⟩)
    · rw [upd_eq] at hm
      split at hm
      · cases hm
      · exact hm
    · rw [upd_eq] at hp; split at hp
      · exact hp rfl
      · exact hp e
  · intro m b hm
    rw [upd_eq] at hm
    split at hm
    · cases hm
    · exact H.live m b hm
  · intro p q a b hp hq
    refine H.sep p q a b (fun e => ?_) (fun e => ?_)
    · rw [upd_eq] at hp; split at hp <;> simp_all
    · rw [upd_eq] at hq; split at hq <;> simp_all
end Go.Proofs.YtpdojmebloekgaaDoor.Nice
