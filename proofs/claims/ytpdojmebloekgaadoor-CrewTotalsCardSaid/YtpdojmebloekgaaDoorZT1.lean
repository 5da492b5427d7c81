/- Part 1 of the proof of CrewTotals: NiceA, NiceB, NiceC, NiceD. -/
import Derived.WalkKit
import Derived.Laws.AppendOwn
import Derived.Laws.MakeOwn
import Derived.Laws.CopyRow
import Derived.Below
import Derived.Orders
namespace Go.Proofs.YtpdojmebloekgaaDoor.Nice
open Go
set_option linter.unusedVariables false
abbrev Imm := Nat → Option Obj
def Imm.le (M M' : Imm) : Prop := ∀ b o, M b = some o → M' b = some o
theorem Imm.le_refl (M : Imm) : M.le M := fun _ _ h => h
theorem Imm.le_trans {A B C : Imm} (h : A.le B) (k : B.le C) : A.le C := fun b o x => k b o (h b o x)
structure MP where
 p : Imm → Value → Prop
 mono : ∀ M M' v, M.le M' → p M v → p M' v
 one : ∀ M v, p M v → v.oneCell' = true
inductive D where
 | any
 | val (v : Value)
 | nils
 | vec (k len : Nat) (f : Nat → Nat → D)
 | pr (p : MP)
inductive DR (M : Imm) : D → Value → Prop
 | any (v : Value) (h : v.oneCell' = true) : DR M .any v
 | val (v : Value) (h : v.oneCell' = true) : DR M (.val v) v
 | nils (a : Option Addr) : DR M .nils (.slice a 0 0)
 | vec0 (k : Nat) (f : Nat → Nat → D) (a : Option Addr) (cap : Nat) : DR M (.vec k 0 f) (.slice a 0 cap)
 | vec (k len : Nat) (f : Nat → Nat → D) (b o cap : Nat) (cur : Array Value) (T : TypeId) (fz : Nat × Nat) (g : Nat → Nat → Value)
     (hb : M b = some (.cells cur T fz)) (hc : len ≤ cap) (hg : ∀ i c, i < len → c < k → cur[o + i * k + c]? = some (g i c))
     (hr : ∀ i c, i < len → c < k → DR M (f i c) (g i c)) : DR M (.vec k len f) (.slice (some ⟨b, o, none⟩) len cap)
 | pr (p : MP) (v : Value) (h : p.p M v) : DR M (.pr p) v
theorem DR.mono {M M' : Imm} (hM : M.le M') {x : D} {v : Value} (h : DR M x v) : DR M' x v := by
 induction h with
 | any v h => exact .any v h
 | val v h => exact .val v h
 | nils a => exact .nils a
 | vec0 k f a cap => exact .vec0 k f a cap
 | vec k len f b o cap cur T fz g hb hc hg hr ih => exact .vec k len f b o cap cur T fz g (hM _ _ hb) hc hg ih
 | pr p v h => exact .pr p v (p.mono _ _ _ hM h)
theorem DR.one {M : Imm} {x : D} {v : Value} (h : DR M x v) : v.oneCell' = true := by
 cases h with
 | pr p _ h => exact p.one _ _ h
 | any _ h => exact h
 | val _ h => exact h
 | _ => rfl
structure Own where
 b : Nat
 k : Nat
 R : Nat
abbrev Names := Nat → Option Own
def Names.le (ρ ρ' : Names) : Prop := ∀ n x, ρ n = some x → ρ' n = some x
theorem Names.le_refl (ρ : Names) : ρ.le ρ := fun _ _ h => h
theorem Names.le_trans {A B C : Names} (h : A.le B) (k : B.le C) : A.le C := fun n x y => k n x (h n x y)
inductive SV where
 | any
 | d (x : D)
 | vp (k len : Nat) (f : Nat → Nat → D) (i c : Nat)
 | ptr (n i c : Nat)
 | sl (n o len : Nat)
 | cs (n c len : Nat)
 | op (n : Nat) (b : Bool)
 | map (n : Nat)
 | fn (f : FuncId) (caps : List SV)
 | agg (xs : List SV)
 | tup (xs : List SV)
 | iface (t : TypeId) (x : SV)
abbrev SV.i (n : Int) : SV := .d (.val (.int .i64 n))
abbrev SV.b (x : Bool) : SV := .d (.val (.bool x))
inductive VR (M : Imm) (ρ : Names) : SV → Value → Prop
 | any (v : Value) : VR M ρ .any v
 | d (x : D) (v : Value) (h : DR M x v) : VR M ρ (.d x) v
 | vp (k len : Nat) (f : Nat → Nat → D) (i c b o : Nat) (cur : Array Value) (T : TypeId) (fz : Nat × Nat) (g : Nat → Nat → Value)
     (hb : M b = some (.cells cur T fz)) (hg : ∀ i c, i < len → c < k → cur[o + i * k + c]? = some (g i c))
     (hr : ∀ i c, i < len → c < k → DR M (f i c) (g i c)) : VR M ρ (.vp k len f i c) (.pointer (some ⟨b, o + i * k + c, none⟩))
 | ptr (n i c : Nat) (x : Own) (h : ρ n = some x) : VR M ρ (.ptr n i c) (.pointer (some ⟨x.b, i * x.k + c, none⟩))
 | sl (n o len : Nat) (x : Own) (h : ρ n = some x) (hl : o + len ≤ x.R) (hR : x.R ≤ maxLen) (h0 : 0 < x.R) : VR M ρ (.sl n o len) (.slice (some ⟨x.b, o * x.k, none⟩) len (x.R - o))
 | sl0 (n o : Nat) (x : Own) (h : ρ n = some x) (hR : x.R = o) (a : Option Addr) : VR M ρ (.sl n o 0) (.slice a 0 0)
 | cs (n c len : Nat) (x : Own) (cap : Nat) (h : ρ n = some x) (hc : len ≤ cap) : VR M ρ (.cs n c len) (.slice (some ⟨x.b, c, none⟩) len cap)
 | opY (n : Nat) (x : Own) (h : ρ n = some x) : VR M ρ (.op n true) (.pointer (some ⟨x.b, 0, none⟩))
 | opN (n : Nat) : VR M ρ (.op n false) (.pointer none)
 | map (n : Nat) (x : Own) (h : ρ n = some x) : VR M ρ (.map n) (.map (some x.b))
 | fn (f : FuncId) (caps : List SV) (vs : Array Value) (g : Nat → Value) (hs : vs.size = caps.length) (hg : ∀ i, i < caps.length → vs[i]? = some (g i))
     (hr : ∀ i x, caps[i]? = some x → VR M ρ x (g i)) : VR M ρ (.fn f caps) (.func (.func f) #[] vs)
 | agg (xs : List SV) (vs : Array Value) (g : Nat → Value) (hs : vs.size = xs.length) (hg : ∀ i, i < xs.length → vs[i]? = some (g i))
     (hr : ∀ i x, xs[i]? = some x → VR M ρ x (g i)) : VR M ρ (.agg xs) (.agg vs)
 | tup (xs : List SV) (vs : Array Value) (g : Nat → Value) (hs : vs.size = xs.length) (hg : ∀ i, i < xs.length → vs[i]? = some (g i))
     (hr : ∀ i x, xs[i]? = some x → VR M ρ x (g i)) : VR M ρ (.tup xs) (.tuple vs)
 | iface (t : TypeId) (x : SV) (v : Value) (h : VR M ρ x v) : VR M ρ (.iface t x) (.iface t v)
theorem VR.mono {M M' : Imm} {ρ ρ' : Names} (hM : M.le M') (hρ : ρ.le ρ') {x : SV} {v : Value} (h : VR M ρ x v) : VR M' ρ' x v := by
 induction h with
 | any v => exact .any v
 | d x v h => exact .d x v (h.mono hM)
 | vp k len f i c b o cur T fz g hb hg hr => exact .vp k len f i c b o cur T fz g (hM _ _ hb) hg fun i c hi hc => (hr i c hi hc).mono hM
 | ptr n i c x h => exact .ptr n i c x (hρ _ _ h)
 | sl n o len x h hl hR h0 => exact .sl n o len x (hρ _ _ h) hl hR h0
 | sl0 n o x h hR a => exact .sl0 n o x (hρ _ _ h) hR a
 | cs n c len x cap h hc => exact .cs n c len x cap (hρ _ _ h) hc
 | opY n x h => exact .opY n x (hρ _ _ h)
 | opN n => exact .opN n
 | map n x h => exact .map n x (hρ _ _ h)
 | fn f caps vs g hs hg hr ih => exact .fn f caps vs g hs hg ih
 | agg xs vs g hs hg hr ih => exact .agg xs vs g hs hg ih
 | tup xs vs g hs hg hr ih => exact .tup xs vs g hs hg ih
 | iface t x v h ih => exact .iface t x v ih
def SV.one : SV → Bool
 | .any | .agg _ | .tup _ => false
 | _ => true
theorem VR.one {M : Imm} {ρ : Names} {x : SV} {v : Value} (h : VR M ρ x v) (hx : x.one = true) : v.oneCell' = true := by
 cases h <;> first | (simp [SV.one] at hx; done) | rfl | (exact DR.one ‹_›)
inductive InB where
 | cells (ty : TypeId) (k : Nat) (xs : List SV)
 | rows (ty : TypeId) (k len : Nat) (f : Nat → Nat → D)
structure Fam where
 es : List (Value × SV × List InB)
 op : List (Nat × SV)
 ly : Option (TypeId × Nat)
def entry : Option (TypeId × Nat) → Obj → Nat → Option Value
 | none, .map ents _, j => (ents[j]?).map (·.val)
 | some (_, k), .cells cur _ _, j => if (j + 1) * k ≤ cur.size then some (.agg (cur.extract (j * k) (j * k + k))) else none
 | _, _, _ => none
def Fam.at (e : Fam) (j : Nat) (k : Value) (s : SV) (bl : List InB) : Prop := e.es[j]? = some (k, s, bl) ∧ ∀ p, p ∈ e.op → p.1 ≠ j
inductive Blk where
 | cells (ty : TypeId) (k : Nat) (xs : List SV)
 | rows (ty : TypeId) (k len : Nat) (f : Nat → Nat → D)
 | map (es : List (Value × D))
 | fam (S : List Nat) (es : Fam)
 | iter (m : SV) (since : Nat) (seen : List Nat)
def InB.blk : InB → Blk
 | .cells ty k xs => .cells ty k xs
 | .rows ty k len f => .rows ty k len f
def Blk.ghost : Blk → Bool
 | .rows _ _ 0 _ => true
 | _ => false
def BR (M : Imm) (ρ : Names) (x : Own) : Blk → Obj → Prop
 | .cells ty k xs, .cells cur T fz => T = ty ∧ fz = (0, 0) ∧ x.k = k ∧ cur.size = x.R * k ∧ xs.length ≤ cur.size ∧ ∀ (j : Nat) (s : SV), xs[j]? = some s → ∃ v, cur[j]? = some v ∧ VR M ρ s v
 | .rows ty k len f, .cells cur T fz => T = ty ∧ fz = (0, 0) ∧ x.k = k ∧ cur.size = x.R * k ∧ len ≤ x.R ∧ ∀ i c, i < len → c < k → ∃ v, cur[i * k + c]? = some v ∧ DR M (f i c) v
 | .map es, .map ents cl => (ents.size = es.length ∧ cl = ents.size) ∧ ∀ (j : Nat) (e : Value × D), es[j]? = some e → ∃ y : MapEntry, ents[j]? = some y ∧ y.key = e.1 ∧ DR M e.2 y.val ∧ y.born = j
 | .fam _ es, .map ents cl => es.ly = none ∧ (ents.size = es.es.length ∧ cl = ents.size) ∧ (∀ (j : Nat) (e : Value × SV × List InB), es.es[j]? = some e → ∃ y : MapEntry, ents[j]? = some y ∧ y.key = e.1 ∧ y.born = j) ∧ ∀ p, p ∈ es.op → ∃ y : MapEntry, ents[p.1]? = some y ∧ VR M ρ p.2 y.val
 | .fam _ es, .cells cur T fz => (es.ly = some (T, x.k) ∧ fz = (0, 0) ∧ cur.size = x.R * x.k ∧ es.es.length ≤ x.R) ∧ ∀ p, p ∈ es.op → ∃ v, entry es.ly (.cells cur T fz) p.1 = some v ∧ VR M ρ p.2 v
 | .iter m since seen, .mapIter mp since' seen' cl => VR M ρ m (.map mp) ∧ since' = since ∧ seen'.toList = seen ∧ cl = since
 | _, _ => False
theorem BR.mono {M M' : Imm} {ρ ρ' : Names} (hM : M.le M') (hρ : ρ.le ρ') {x : Own} {b : Blk} {o : Obj} (h : BR M ρ x b o) : BR M' ρ' x b o := by
 cases b with
 | cells ty k xs => cases o with
   | cells cur T fz =>
     obtain ⟨h1, h2, h3, h4, h5, h6⟩ := h
     exact ⟨h1, h2, h3, h4, h5, fun j s hs => let ⟨v, hv, hr⟩ := h6 j s hs; ⟨v, hv, hr.mono hM hρ⟩⟩
   | _ => exact h.elim
 | rows ty k len f => cases o with
   | cells cur T fz =>
     obtain ⟨h1, h2, h3, h4, h5, h6⟩ := h
     exact ⟨h1, h2, h3, h4, h5, fun i c hi hc => let ⟨v, hv, hr⟩ := h6 i c hi hc; ⟨v, hv, hr.mono hM⟩⟩
   | _ => exact h.elim
 | map es => cases o with
   | map ents cl =>
     obtain ⟨h1, h2⟩ := h
     exact ⟨h1, fun j e he => let ⟨y, hy, hk, hr, hb⟩ := h2 j e he; ⟨y, hy, hk, hr.mono hM, hb⟩⟩
   | _ => exact h.elim
 | fam S es => cases o with
   | map ents cl =>
     obtain ⟨h0, h1, h2, h3⟩ := h
     exact ⟨h0, h1, h2, fun p hp => let ⟨y, hy, hr⟩ := h3 p hp; ⟨y, hy, hr.mono hM hρ⟩⟩
   | cells cur T fz =>
     obtain ⟨h1, h3⟩ := h
     exact ⟨h1, fun p hp => let ⟨y, hy, hr⟩ := h3 p hp; ⟨y, hy, hr.mono hM hρ⟩⟩
   | _ => exact h.elim
 | iter m since seen => cases o with
   | mapIter mp s' seen' cl => exact ⟨h.1.mono hM hρ, h.2⟩
   | _ => exact h.elim
theorem entry_map {ents : Array MapEntry} {cl j : Nat} {v : Value} : entry none (.map ents cl) j = some v ↔ ∃ y, ents[j]? = some y ∧ y.val = v := by
 simp [entry, Option.map_eq_some_iff]
theorem BR.open {M : Imm} {ρ : Names} {x : Own} {S : List Nat} {es : Fam} {o : Obj} (h : BR M ρ x (.fam S es) o) {p : Nat × SV} (hp : p ∈ es.op) : ∃ v, entry es.ly o p.1 = some v ∧ VR M ρ p.2 v := by
 cases o with
 | map ents cl =>
   obtain ⟨h0, _, _, h3⟩ := h
   obtain ⟨y, hy, hr⟩ := h3 p hp
   exact ⟨y.val, by rw [h0]; exact entry_map.2 ⟨y, hy, rfl⟩, hr⟩
 | cells cur T fz => exact h.2 p hp
 | _ => exact h.elim
def FR (M : Imm) (w : World) (b : Nat) (S : List Nat) (es : Fam) : Prop :=
 ∃ ρs : Nat → Names,
   (∀ (j : Nat) (k : Value) (s : SV) (bl : List InB), es.at j k s bl →
     (∃ o v, w.heap[b]? = some o ∧ entry es.ly o j = some v ∧ VR M (ρs j) s v) ∧
     ∀ (i : Nat) (c : InB), bl[i]? = some c → ∃ z, ρs j i = some z ∧ ((z.R = 0 ∧ c.blk.ghost = true) ∨ (0 < z.R ∧ z.b ∈ S ∧ ∃ o, w.heap[z.b]? = some o ∧ BR M (ρs j) z c.blk o))) ∧
   (∀ (j j' : Nat) (k k' : Value) (s s' : SV) (bl bl' : List InB) (i i' : Nat) (c c' : InB) (z z' : Own), es.at j k s bl → es.at j' k' s' bl' → bl[i]? = some c → bl'[i']? = some c' →
     ρs j i = some z → ρs j' i' = some z' → 0 < z.R → 0 < z'.R → z.b = z'.b → j = j' ∧ i = i')
abbrev Heap := Nat → Option Blk
structure HR (M F : Imm) (ρ : Names) (h : Heap) (w : World) : Prop where
 imm : ∀ b o, M b = some o → w.heap[b]? = some o
 frm : ∀ b o, F b = some o → w.heap[b]? = some o
 dis : ∀ b o, F b = some o → M b = none
 live : ∀ n blk, h n = some blk → ∃ x, ρ n = some x ∧ ((x.R = 0 ∧ blk.ghost = true) ∨
   (0 < x.R ∧ M x.b = none ∧ F x.b = none ∧ ∃ obj, w.heap[x.b]? = some obj ∧ BR M ρ x blk obj))
 sep : ∀ n m x y, h n ≠ none → h m ≠ none → ρ n = some x → ρ m = some y → 0 < x.R → 0 < y.R → x.b = y.b → n = m
 fam : ∀ n S es, h n = some (.fam S es) → ∃ x, ρ n = some x ∧ 0 < x.R ∧ (∀ b, b ∈ S → M b = none ∧ F b = none ∧ b < w.heap.size) ∧
   (∀ m y, h m ≠ none → ρ m = some y → 0 < y.R → y.b ∉ S) ∧ (∀ m S' es', m ≠ n → h m = some (.fam S' es') → ∀ b, b ∈ S → b ∉ S') ∧ FR M w x.b S es
theorem FR.last {M M' : Imm} {w w' : World} {b : Nat} {S : List Nat} {es : Fam} (h : FR M w b S es) (hM : M.le M') (hw : ∀ c, c = b ∨ c ∈ S → w'.heap[c]? = w.heap[c]?) : FR M' w' b S es := by
 obtain ⟨ρs, h1, h2⟩ := h
 refine ⟨ρs, fun j k s bl hj => ?_, h2⟩
 obtain ⟨⟨ob, y, e1, e2, e3⟩, h3⟩ := h1 j k s bl hj
 refine ⟨⟨ob, y, by rw [hw b (.inl rfl)]; exact e1, e2, e3.mono hM (Names.le_refl _)⟩, fun i c hc => ?_⟩
 obtain ⟨z, hz, hr⟩ := h3 i c hc
 refine ⟨z, hz, ?_⟩
 rcases hr with hr | ⟨g0, g1, o, g2, g3⟩
 · exact .inl hr
 · exact .inr ⟨g0, g1, o, by rw [hw _ (.inr g1)]; exact g2, g3.mono hM (Names.le_refl _)⟩
theorem FR.shuts {M : Imm} {w : World} {b : Nat} {S : List Nat} {es es' : Fam} (h : FR M w b S es) (hl : es'.ly = es.ly) (he : ∀ (j : Nat) (k : Value) (s : SV) (bl : List InB), es'.at j k s bl → ∃ k', es.at j k' s bl) : FR M w b S es' := by
 obtain ⟨ρs, h1, h2⟩ := h
 refine ⟨ρs, fun j k s bl hj => ?_, ?_⟩
 · obtain ⟨k', hk⟩ := he j k s bl hj
   rw [hl]
   exact h1 j k' s bl hk
 · intro j j' k k' s s' bl bl' i i' c c' z z' hj hj'
   obtain ⟨k1, e1⟩ := he j k s bl hj
   obtain ⟨k2, e2⟩ := he j' k' s' bl' hj'
   exact h2 j j' k1 k2 s s' bl bl' i i' c c' z z' e1 e2
theorem HR.famKeep {M F : Imm} {ρ : Names} {h : Heap} {w : World} (H : HR M F ρ h w) {M' F' : Imm} {ρ' : Names} {h' : Heap} {w' : World}
   (hh : ∀ n S es, h' n = some (.fam S es) → h n = some (.fam S es)) (hρ : ρ.le ρ') (hM : M.le M') (hsz : w.heap.size ≤ w'.heap.size)
   (hMF : ∀ n S es, h n = some (.fam S es) → ∀ b, b ∈ S → M b = none → F b = none → M' b = none ∧ F' b = none)
   (hw : ∀ n S es x c, h' n = some (.fam S es) → h n = some (.fam S es) → ρ n = some x → 0 < x.R → (c = x.b ∨ c ∈ S) → w'.heap[c]? = w.heap[c]?)
   (hn : ∀ n S es m y, h n = some (.fam S es) → h' m ≠ none → ρ' m = some y → 0 < y.R → (h m ≠ none ∧ ρ m = some y) ∨ y.b ∉ S) :
   ∀ n S es, h' n = some (.fam S es) → ∃ x, ρ' n = some x ∧ 0 < x.R ∧ (∀ b, b ∈ S → M' b = none ∧ F' b = none ∧ b < w'.heap.size) ∧
     (∀ m y, h' m ≠ none → ρ' m = some y → 0 < y.R → y.b ∉ S) ∧ (∀ m S' es', m ≠ n → h' m = some (.fam S' es') → ∀ b, b ∈ S → b ∉ S') ∧ FR M' w' x.b S es := by
 intro n S es hf
 have hf0 := hh n S es hf
 obtain ⟨x, hx, h0, h1, h2, h3, h4⟩ := H.fam n S es hf0
 refine ⟨x, hρ n x hx, h0, fun b hb => ?_, fun m y hm hy h0y => ?_, fun m S' es' hmn hm => h3 m S' es' hmn (hh m S' es' hm), h4.last hM (fun c hc => hw n S es x c hf hf0 hx h0 hc)⟩
 · obtain ⟨g1, g2, g3⟩ := h1 b hb
   have := hMF n S es hf0 b hb g1 g2
   exact ⟨this.1, this.2, by omega⟩
 · rcases hn n S es m y hf0 hm hy h0y with ⟨k1, k2⟩ | k
   · exact h2 m y k1 k2 h0y
   · exact k
structure Same (w w' : World) : Prop where
 os : w'.os = w.os
 tape : w'.tape = w.tape
 output : w'.output = w.output
 size : w.heap.size ≤ w'.heap.size
theorem Same.refl (w : World) : Same w w := ⟨rfl, rfl, rfl, Nat.le_refl _⟩
theorem Same.trans {a b c : World} (h : Same a b) (k : Same b c) : Same a c := ⟨k.os.trans h.os, k.tape.trans h.tape, k.output.trans h.output, Nat.le_trans h.size k.size⟩
theorem Same.alloc (w : World) (o : Obj) : Same w (w.alloc o) := ⟨rfl, rfl, rfl, by simp⟩
theorem Same.setCell (w : World) (a : Addr) (v : Value) : Same w (w.setCell a v) := ⟨rfl, rfl, rfl, by simp⟩
def upd {α : Type} (h : Nat → α) (n : Nat) (b : α) : Nat → α := fun m => bif Nat.beq m n then b else h m
@[simp] theorem upd_same {α : Type} (h : Nat → α) (n : Nat) (b : α) : upd h n b n = b := by simp [upd]
theorem upd_other {α : Type} (h : Nat → α) (n m : Nat) (b : α) (e : m ≠ n) : upd h n b m = h m := by
 unfold upd; cases hb : Nat.beq m n
 · rfl
 · exact absurd (Nat.eq_of_beq_eq_true hb) e
theorem upd_eq {α : Type} (h : Nat → α) (n m : Nat) (b : α) : upd h n b m = if m = n then b else h m := by
 by_cases e : m = n
 · subst e; simp
 · rw [upd_other _ _ _ _ e, if_neg e]
theorem upd_comm {α : Type} (h : Nat → α) (n m : Nat) (b c : α) (e : n ≠ m) : upd (upd h n b) m c = upd (upd h m c) n b := by
 funext k; simp only [upd_eq]; split <;> split <;> simp_all
def wrH (h : Heap) : List (Nat × Option Blk) → Heap
 | [] => h
 | (n, b) :: r => wrH (upd h n b) r
theorem HR.drawn {M F : Imm} {ρ : Names} {h : Heap} {w : World} (H : HR M F ρ h w) (n : Nat) : HR M F ρ h { w with drawn := n } :=
 ⟨H.imm, H.frm, H.dis, H.live, H.sep, H.famKeep (fun _ _ _ h => h) (Names.le_refl _) (Imm.le_refl _) (Nat.le_refl _) (fun _ _ _ _ _ _ a b => ⟨a, b⟩) (fun _ _ _ _ _ _ _ _ _ _ => rfl) (fun _ _ _ m y _ a b _ => .inl ⟨a, b⟩)⟩
theorem HR.push {M F : Imm} {ρ : Names} {h : Heap} {w : World} (H : HR M F ρ h w) (n : Nat) (hn : ρ n = none) (k R : Nat) (hR : 0 < R) (blk : Blk) (obj : Obj)
   (hF : ∀ b, w.heap.size ≤ b → M b = none ∧ F b = none)
   (hB : ∀ ρ' : Names, ρ.le ρ' → BR M ρ' ⟨w.heap.size, k, R⟩ blk obj) (hfm : ∀ S es, blk ≠ .fam S es := by intro S es h; cases h) :
   ∃ ρ' : Names, ρ' = (fun m => if m = n then some ⟨w.heap.size, k, R⟩ else ρ m) ∧ ρ.le ρ' ∧ HR M F ρ' (upd h n (some blk)) (w.alloc obj) := by
 refine ⟨_, rfl, ?_, ?_⟩
 · intro m x hx
   have : m ≠ n := by rintro rfl; rw [hn] at hx; cases hx
   simp [this, hx]
 have hle : ρ.le (fun m => if m = n then some ⟨w.heap.size, k, R⟩ else ρ m) := by
   intro m x hx
   have : m ≠ n := by rintro rfl; rw [hn] at hx; cases hx
   simp [this, hx]
 have old : ∀ (b : Nat) (o : Obj), w.heap[b]? = some o → (w.alloc obj).heap[b]? = some o := by
   intro b o hb
   rw [heap_alloc_old w obj (h := (Array.getElem?_eq_some_iff.1 hb).1)]; exact hb
 have lt : ∀ (b : Nat) (o : Obj), w.heap[b]? = some o → b < w.heap.size := fun b o hb => (Array.getElem?_eq_some_iff.1 hb).1
 refine ⟨fun b o hb => old _ _ (H.imm _ _ hb), fun b o hb => old _ _ (H.frm _ _ hb), H.dis, ?_, ?_, ?_⟩
 rotate_right
 · refine H.famKeep (fun m S es hm => ?_) hle (Imm.le_refl _) (by simp) (fun _ _ _ _ _ _ a b => ⟨a, b⟩) (fun m S es x c _ hm hx h0 hc => ?_) (fun m S es p y hm hp hy h0 => ?_)
   · rw [upd_eq] at hm
     split at hm
     · exact absurd (Option.some.inj hm) (hfm S es)
     · exact hm
   · have hlt : c < w.heap.size := by
       rcases hc with rfl | hc
       · obtain ⟨x', hx', hr⟩ := H.live m _ hm
         rw [hx] at hx'; cases hx'
         rcases hr with ⟨h00, _⟩ | ⟨_, _, _, o, h3, _⟩
         · omega
         · exact lt _ _ h3
       · obtain ⟨_, _, _, h1, _⟩ := H.fam m S es hm
         exact (h1 c hc).2.2
     rw [heap_alloc_old w obj (h := hlt)]
   · by_cases e : p = n
     · subst e
       simp at hy; subst hy
       refine .inr fun hb => ?_
       obtain ⟨_, _, _, h1, _⟩ := H.fam m S es hm
       have := (h1 _ hb).2.2
       exact absurd this (Nat.lt_irrefl _)
     · simp only [e, if_false] at hy
       rw [upd_other _ _ _ _ e] at hp
       exact .inl ⟨hp, hy⟩
 · intro m b hm
   rw [upd_eq] at hm
   split at hm
   · next e =>
     subst e; cases hm
     exact ⟨_, by simp, .inr ⟨hR, (hF _ (Nat.le_refl _)).1, (hF _ (Nat.le_refl _)).2, obj, heap_alloc_new w obj, hB _ hle⟩⟩
   · next e =>
     obtain ⟨x, hx, hr⟩ := H.live m b hm
     refine ⟨x, by simp [e, hx], ?_⟩
     rcases hr with hr | ⟨h0, h1, h2, o, h3, h4⟩
     · exact .inl hr
     · exact .inr ⟨h0, h1, h2, o, old _ _ h3, h4.mono (Imm.le_refl _) hle⟩
 · intro p q x y hp hq hx hy h0x h0y hb
   simp only [upd_eq] at hp hq
   by_cases ep : p = n <;> by_cases eq : q = n
   · rw [ep, eq]
   · simp only [ep, if_true] at hx; simp only [eq, if_false] at hy hq
     cases hx
     obtain ⟨b2, hb2⟩ := Option.ne_none_iff_exists'.1 hq
     obtain ⟨x', hx', hr⟩ := H.live q b2 hb2
     rw [hy] at hx'; cases hx'
     rcases hr with ⟨h0, _⟩ | ⟨_, _, _, o, h3, _⟩
     · omega
     · have := lt _ _ h3; simp at hb; omega
   · simp only [eq, if_true] at hy; simp only [ep, if_false] at hx hp
     cases hy
     obtain ⟨b2, hb2⟩ := Option.ne_none_iff_exists'.1 hp
     obtain ⟨x', hx', hr⟩ := H.live p b2 hb2
     rw [hx] at hx'; cases hx'
     rcases hr with ⟨h0, _⟩ | ⟨_, _, _, o, h3, _⟩
     · omega
     · have := lt _ _ h3; simp at hb; omega
   · simp only [ep, eq, if_false] at hx hy hp hq
     exact H.sep p q x y hp hq hx hy h0x h0y hb
theorem HR.beyond {M F : Imm} {ρ : Names} {h : Heap} {w : World} (H : HR M F ρ h w) : ∀ b, w.heap.size ≤ b → M b = none ∧ F b = none := by
 intro b hb
 constructor
 · cases e : M b with
   | none => rfl
   | some o => have := (Array.getElem?_eq_some_iff.1 (H.imm b o e)).1; omega
 · cases e : F b with
   | none => rfl
   | some o => have := (Array.getElem?_eq_some_iff.1 (H.frm b o e)).1; omega
theorem HR.put {M F : Imm} {ρ : Names} {h : Heap} {w w' : World} (H : HR M F ρ h w) (n : Nat) (x : Own) (hn : h n ≠ none) (hx : ρ n = some x) (h0 : 0 < x.R) (blk : Blk) (obj : Obj)
   (hw : w'.heap[x.b]? = some obj) (ho : ∀ b, b ≠ x.b → w'.heap[b]? = w.heap[b]?) (hB : BR M ρ x blk obj) (hfm : ∀ S es, blk ≠ .fam S es := by intro S es h; cases h) (hsz : w.heap.size ≤ w'.heap.size := by simp) : HR M F ρ (upd h n (some blk)) w' := by
 obtain ⟨b0, hb0⟩ := Option.ne_none_iff_exists'.1 hn
 obtain ⟨x', hx', hr⟩ := H.live n b0 hb0
 rw [hx] at hx'; cases hx'
 rcases hr with ⟨h00, _⟩ | ⟨_, hM, hF, o0, ho0, hB0⟩
 · omega
 have old : ∀ (b : Nat) (o : Obj), (M b = some o ∨ F b = some o) → w.heap[b]? = some o → w'.heap[b]? = some o := by
   intro b o hmf hb
   rw [ho b ?_]; exact hb
   rintro rfl
   rcases hmf with e | e
   · rw [hM] at e; cases e
   · rw [hF] at e; cases e
 refine ⟨fun b o hb => old _ _ (.inl hb) (H.imm _ _ hb), fun b o hb => old _ _ (.inr hb) (H.frm _ _ hb), H.dis, ?_, ?_, ?_⟩
 rotate_right
 · refine H.famKeep (fun m S es hm => ?_) (Names.le_refl _) (Imm.le_refl _) hsz (fun _ _ _ _ _ _ a b => ⟨a, b⟩) (fun m S es y c hm' hm hy h0y hc => ?_) (fun m S es p y hm hp hy h0y => ?_)
   · rw [upd_eq] at hm
     split at hm
     · exact absurd (Option.some.inj hm) (hfm S es)
     · exact hm
   · refine ho c ?_
     rintro rfl
     have hne : m ≠ n := by
       rintro rfl
       rw [upd_same] at hm'
       exact hfm S es (Option.some.inj hm')
     rcases hc with hc | hc
     · exact hne (H.sep m n y x (by rw [hm]; simp) (by rw [hb0]; simp) hy hx h0y h0 hc.symm)
     · obtain ⟨_, _, _, _, h2, _⟩ := H.fam m S es hm
       exact h2 n x (by rw [hb0]; simp) hx h0 hc
   · refine .inl ⟨?_, hy⟩
     intro e; rw [upd_eq] at hp; split at hp
     · next e2 => subst e2; rw [hb0] at e; cases e
     · exact hp e
 · intro m b hm
   rw [upd_eq] at hm
   split at hm
   · next e => subst e; cases hm; exact ⟨x, hx, .inr ⟨h0, hM, hF, obj, hw, hB⟩⟩
   · next e =>
     obtain ⟨y, hy, hr⟩ := H.live m b hm
     refine ⟨y, hy, ?_⟩
     rcases hr with hr | ⟨g0, h1, h2, o, h3, h4⟩
     · exact .inl hr
     · refine .inr ⟨g0, h1, h2, o, ?_, h4⟩
       rw [ho y.b ?_]; exact h3
       intro hb
       exact e (H.sep m n y x (by rw [hm]; simp) hn hy hx g0 h0 hb)
 · intro p q a b hp hq
   have pp : h p ≠ none := by
     intro e; rw [upd_eq] at hp; split at hp
     · next e2 => subst e2; exact hn e
     · exact hp e
   have qq : h q ≠ none := by
     intro e; rw [upd_eq] at hq; split at hq
     · next e2 => subst e2; exact hn e
     · exact hq e
   exact H.sep p q a b pp qq
theorem HR.beside {M F : Imm} {ρ : Names} {h : Heap} {w : World} (H : HR M F ρ h w) (obj : Obj) : HR M F ρ h (w.alloc obj) := by
 have old : ∀ (b : Nat) (o : Obj), w.heap[b]? = some o → (w.alloc obj).heap[b]? = some o := by
   intro b o hb
   rw [heap_alloc_old w obj (h := (Array.getElem?_eq_some_iff.1 hb).1)]; exact hb
 refine ⟨fun b o hb => old _ _ (H.imm _ _ hb), fun b o hb => old _ _ (H.frm _ _ hb), H.dis, fun m b hm => ?_, H.sep, ?_⟩
 · obtain ⟨x, hx, hr⟩ := H.live m b hm
   refine ⟨x, hx, ?_⟩
   rcases hr with hr | ⟨h0, h1, h2, o, h3, h4⟩
   · exact .inl hr
   · exact .inr ⟨h0, h1, h2, o, old _ _ h3, h4⟩
 · refine H.famKeep (fun _ _ _ h => h) (Names.le_refl _) (Imm.le_refl _) (by simp) (fun _ _ _ _ _ _ a b => ⟨a, b⟩) (fun m S es x c _ hm hx h0 hc => ?_) (fun _ _ _ m y _ a b _ => .inl ⟨a, b⟩)
   have hlt : c < w.heap.size := by
     rcases hc with rfl | hc
     · obtain ⟨x', hx', hr⟩ := H.live m _ hm
       rw [hx] at hx'; cases hx'
       rcases hr with ⟨h00, _⟩ | ⟨_, _, _, o, h3, _⟩
       · omega
       · exact (Array.getElem?_eq_some_iff.1 h3).1
     · obtain ⟨_, _, _, h1, _⟩ := H.fam m S es hm
       exact (h1 c hc).2.2
   rw [heap_alloc_old w obj (h := hlt)]
theorem HR.stills {M F : Imm} {ρ : Names} {h : Heap} {w : World} (H : HR M F ρ h w) {M' : Imm} {h' : Heap} (hM : M.le M') (hh : ∀ n b, h' n = some b → h n = some b) (hi : ∀ b o, M' b = some o → w.heap[b]? = some o) (hd : ∀ b o, F b = some o → M' b = none)
   (hl : ∀ n b x, h' n = some b → ρ n = some x → 0 < x.R → M' x.b = none) (hS : ∀ n S es, h' n = some (.fam S es) → ∀ b, b ∈ S → M' b = none) : HR M' F ρ h' w := by
 refine ⟨hi, H.frm, hd, fun n b hn => ?_, fun n m x y hn hm => H.sep n m x y (fun e => hn ?_) (fun e => hm ?_), ?_⟩
 · obtain ⟨x, hx, hr⟩ := H.live n b (hh n b hn)
   refine ⟨x, hx, ?_⟩
   rcases hr with hr | ⟨h0, h1, h2, o, h3, h4⟩
   · exact .inl hr
   · exact .inr ⟨h0, hl n b x hn hx h0, h2, o, h3, h4.mono hM (Names.le_refl _)⟩
 · cases e2 : h' n with
   | none => rfl
   | some b => rw [hh n b e2] at e; cases e
 · cases e2 : h' m with
   | none => rfl
   | some b => rw [hh m b e2] at e; cases e
 · intro n S es hn
   obtain ⟨x, hx, g0, g1, g2, g3, g4⟩ := H.fam n S es (hh n _ hn)
   refine ⟨x, hx, g0, fun b hb => ⟨hS n S es hn b hb, (g1 b hb).2⟩, fun m y hm hy h0 => g2 m y (fun e => hm ?_) hy h0, fun m S' es' hmn hm => g3 m S' es' hmn (hh m _ hm), g4.last hM (fun _ _ => rfl)⟩
   cases e2 : h' m with
   | none => rfl
   | some b => rw [hh m b e2] at e; cases e
theorem HR.drop {M F : Imm} {ρ : Names} {h : Heap} {w : World} (H : HR M F ρ h w) (n : Nat) : HR M F ρ (upd h n none) w := by
 refine ⟨H.imm, H.frm, H.dis, ?_, ?_, ?_⟩
 rotate_right
 · refine H.famKeep (fun m S es hm => ?_) (Names.le_refl _) (Imm.le_refl _) (Nat.le_refl _) (fun _ _ _ _ _ _ a b => ⟨a, b⟩) (fun _ _ _ _ _ _ _ _ _ _ => rfl) (fun m S es p y hm hp hy h0y => .inl ⟨fun e => ?_, hy⟩)
   · rw [upd_eq] at hm
     split at hm
     · cases hm
     · exact hm
   · rw [upd_eq] at hp; split at hp
     · exact hp rfl
     · exact hp e
 · intro m b hm
   rw [upd_eq] at hm
   split at hm
   · cases hm
   · exact H.live m b hm
 · intro p q a b hp hq
   refine H.sep p q a b (fun e => ?_) (fun e => ?_)
   · rw [upd_eq] at hp; split at hp <;> simp_all
   · rw [upd_eq] at hq; split at hq <;> simp_all
end Go.Proofs.YtpdojmebloekgaaDoor.Nice
namespace Go.Proofs.YtpdojmebloekgaaDoor.Nice
open Go
set_option linter.unusedVariables false
structure Ctx where
 P : Program
 sz : Nat
 m : Nat
 G : Nat → SV
structure St where
 t : Nat → SV
 h : Heap
 nx : Nat
structure SR0 (C : Ctx) (M F : Imm) (pin ρ : Names) (σ : St) (a : Act) (w : World) : Prop where
 tm : ∀ k, VR M ρ (σ.t k) (a.tmps.getD k undef)
 sz : a.tmps.size = C.sz
 df : a.defers = []
 hr : HR M F ρ σ.h w
 pn : pin.le ρ
 pm : ∀ n x, pin n = some x → n < C.m
 gl : ∀ g ρ, VR M ρ (C.G g) (.pointer (some ⟨g, 0, none⟩))
structure SR (C : Ctx) (M F : Imm) (pin ρ : Names) (σ : St) (a : Act) (w : World) : Prop extends SR0 C M F pin ρ σ a w where
 fr : ∀ n, σ.nx ≤ n → ρ n = none
def W (C : Ctx) (c : Code) (Q : Exit → St → Prop) (σ : St) : Prop :=
 ∀ M F pin ρ a w, SR C M F pin ρ σ a w → c.wp C.P (fun e a' w' => ∃ M' ρ' σ', M.le M' ∧ SR C M' F pin ρ' σ' a' w' ∧ Same w w' ∧ Q e σ') a w
section
variable {C : Ctx} {Q : Exit → St → Prop} {σ : St}
theorem W_mono {c : Code} {Q' : Exit → St → Prop} (h : W C c Q σ) (hq : ∀ e σ', Q e σ' → Q' e σ') : W C c Q' σ :=
 fun M F pin ρ a w hs => Code.wp_mono (fun e a' w' ⟨M', ρ', σ', h1, h2, h3, h4⟩ => ⟨M', ρ', σ', h1, h2, h3, hq _ _ h4⟩) (h M F pin ρ a w hs)
theorem W_skip (h : Q .normal σ) : W C .skip Q σ := fun M F pin ρ a w hs => wp_skip ⟨M, ρ, σ, Imm.le_refl _, hs, .refl _, h⟩
theorem W_exit {id : Nat} (h : Q (.exit id) σ) : W C (.exit id) Q σ := fun M F pin ρ a w hs => wp_exit ⟨M, ρ, σ, Imm.le_refl _, hs, .refl _, h⟩
theorem W_ret (h : Q .ret σ) : W C .ret Q σ := fun M F pin ρ a w hs => wp_ret ⟨M, ρ, σ, Imm.le_refl _, hs, .refl _, h⟩
def thenQ (K : St → Prop) (Q : Exit → St → Prop) : Exit → St → Prop
 | .normal, σ => K σ
 | e, σ => Q e σ
theorem W_seq {x y : Code} (h : W C x (thenQ (W C y Q) Q) σ) : W C (.seq x y) Q σ := by
 intro M F pin ρ a w hs
 refine wp_seq (Code.wp_mono ?_ (h M F pin ρ a w hs))
 rintro e a' w' ⟨M', ρ', σ', h1, h2, h3, h4⟩
 cases e with
 | normal =>
   refine Code.wp_mono ?_ (h4 M' F pin ρ' a' w' h2)
   rintro e a'' w'' ⟨M'', ρ'', σ'', k1, k2, k3, k4⟩
   exact ⟨M'', ρ'', σ'', Imm.le_trans h1 k1, k2, h3.trans k3, k4⟩
 | _ => exact ⟨M', ρ', σ', h1, h2, h3, h4⟩
def opv (C : Ctx) (t : Nat → SV) : Operand → SV
 | .tmp k => t k
 | .const (.slice none 0 0) => .d .nils
 | .const (.agg _) => .any
 | .const (.tuple _) => .any
 | .const v => .d (.val v)
 | .global g => C.G g
 | .func f => .fn f []
theorem opv_rel {M F : Imm} {pin ρ : Names} {a : Act} {w : World} (hs : SR0 C M F pin ρ σ a w) (x : Operand) : VR M ρ (opv C σ.t x) (a.eval x) := by
 cases x with
 | tmp k => exact hs.tm k
 | const v =>
   cases v with
   | slice ad l c =>
     cases ad with
     | none => cases l with
       | zero => cases c with
         | zero => exact .d _ _ (.nils _)
         | succ c => exact .d _ _ (.val _ rfl)
       | succ l => exact .d _ _ (.val _ rfl)
     | some ad => exact .d _ _ (.val _ rfl)
   | agg _ => exact .any _
   | tuple _ => exact .any _
   | _ => exact .d _ _ (.val _ rfl)
 | global g => exact hs.gl g ρ
 | func f => exact .fn f [] #[] (fun _ => undef) rfl (fun i hi => by simp at hi) (fun i x hx => by simp at hx)
theorem VR.bool {M : Imm} {ρ : Names} {t : Bool} {v : Value} (h : VR M ρ (SV.b t) v) : v = .bool t := by
 cases h with | d _ _ h => cases h; rfl
theorem VR.val {M : Imm} {ρ : Names} {u v : Value} (h : VR M ρ (.d (.val u)) v) : v = u := by
 cases h with | d _ _ h => cases h; rfl
theorem W_cond {c : Operand} {x y : Code} {t : Bool} (hc : opv C σ.t c = SV.b t) (ht : t = true → W C x Q σ) (hf : t = false → W C y Q σ) : W C (.cond c x y) Q σ := by
 intro M F pin ρ a w hs
 have hv := opv_rel hs.toSR0 c
 rw [hc] at hv
 refine wp_cond_split hv.bool (fun e => ht e M F pin ρ a w hs) (fun e => hf e M F pin ρ a w hs)
def inBlockQ (id : Nat) (Q : Exit → St → Prop) : Exit → St → Prop
 | .exit id', σ => if id' = id then Q .normal σ else Q (.exit id') σ
 | e, σ => Q e σ
theorem W_block {id : Nat} {c : Code} (h : W C c (inBlockQ id Q) σ) : W C (.block id c) Q σ := by
 intro M F pin ρ a w hs
 refine wp_block (Code.wp_mono ?_ (h M F pin ρ a w hs))
 rintro e a' w' ⟨M', ρ', σ', h1, h2, h3, h4⟩
 cases e with
 | exit id' =>
   simp only [inBlockQ, Go.Exit.inBlock] at h4 ⊢
   split
   · next e => rw [if_pos e] at h4; exact ⟨M', ρ', σ', h1, h2, h3, h4⟩
   · next e => rw [if_neg e] at h4; exact ⟨M', ρ', σ', h1, h2, h3, h4⟩
 | _ => exact ⟨M', ρ', σ', h1, h2, h3, h4⟩
theorem wp_loop_rel {P : Program} {c : Code} {Q : Exit → Act → World → Prop} (I : Nat → Act → World → Prop) {n : Nat} {a : Act} {w : World} (h₀ : I n a w)
   (round : ∀ n a w, I n a w → c.wp P (Go.Exit.then (fun a' w' => ∃ k, k < n ∧ I k a' w') Q) a w) : (Code.loop c).wp P Q a w := by
 intro b k cs
 have key : ∀ n a w, I n a w → ∃ e a' w', Q e a' w' ∧ Arrives P (lone (b.at a (.code c :: .inLoop c :: k)) cs w) b k cs e a' w' := by
   intro n
   induction n using Nat.strongRecOn with
   | _ n ih =>
     intro a w hI
     obtain ⟨e, a₁, w₁, hq, harr⟩ := round n a w hI b (.inLoop c :: k) cs
     cases e with
     | normal =>
       obtain ⟨j, hlt, hI₁⟩ := hq
       obtain ⟨e₂, a₂, w₂, hq₂, harr₂⟩ := ih j hlt a₁ w₁ hI₁
       exact ⟨e₂, a₂, w₂, hq₂, .of_steps (Steps.trans harr (.one step_inLoop)) harr₂⟩
     | exit id => exact ⟨_, a₁, w₁, hq, .pass (x := .inLoop c) rfl (fun _ _ => .inl (by simp)) harr⟩
     | goto l => exact ⟨_, a₁, w₁, hq, .pass (x := .inLoop c) rfl (fun _ _ => .inl (by simp)) harr⟩
     | ret => exact ⟨_, a₁, w₁, hq, .pass (x := .inLoop c) rfl (fun _ _ => .inl (by simp)) harr⟩
     | panic ch => exact ⟨_, a₁, w₁, hq, .pass (x := .inLoop c) rfl (fun _ _ => .inl (by simp)) harr⟩
     | outgrown => exact ⟨_, a₁, w₁, hq, .pass (x := .inLoop c) rfl (fun _ _ => .inl (by simp)) harr⟩
 obtain ⟨e, a', w', hq, harr⟩ := key n a w h₀
 exact ⟨e, a', w', hq, .of_steps (.one step_loop) harr⟩
theorem W_loop0 {c : Code} (I : Nat → St → Prop) (n : Nat) (h0 : I n σ)
   (round : ∀ n σ, I n σ → W C c (thenQ (fun σ' => ∃ k, k < n ∧ I k σ') Q) σ) : W C (.loop c) Q σ := by
 intro M F pin ρ a w hs
 refine wp_loop_rel (fun n a' w' => ∃ M' ρ' σ', M.le M' ∧ SR C M' F pin ρ' σ' a' w' ∧ Same w w' ∧ I n σ') (n := n) ⟨M, ρ, σ, Imm.le_refl _, hs, .refl _, h0⟩ ?_
 rintro n a1 w1 ⟨M1, ρ1, σ1, h1, h2, h3, h4⟩
 refine Code.wp_mono ?_ (round n σ1 h4 M1 F pin ρ1 a1 w1 h2)
 rintro e a' w' ⟨M', ρ', σ', k1, k2, k3, k4⟩
 cases e with
 | normal =>
   obtain ⟨j, hj, hI⟩ := k4
   exact ⟨j, hj, M', ρ', σ', Imm.le_trans h1 k1, k2, h3.trans k3, hI⟩
 | _ => exact ⟨M', ρ', σ', Imm.le_trans h1 k1, k2, h3.trans k3, k4⟩
end
/- Names turned: a state told by lists, seen through a renaming. -/
mutual
def ren (π : List Nat) : SV → SV
 | .ptr n i c => .ptr (π.getD n 0) i c
 | .sl n o l => .sl (π.getD n 0) o l
 | .cs n c l => .cs (π.getD n 0) c l
 | .op n b => .op (π.getD n 0) b
 | .map n => .map (π.getD n 0)
 | .fn f cs => .fn f (renL π cs)
 | .agg xs => .agg (renL π xs)
 | .tup xs => .tup (renL π xs)
 | .iface t x => .iface t (ren π x)
 | .any => .any
 | .d x => .d x
 | .vp k l f i c => .vp k l f i c
def renL (π : List Nat) : List SV → List SV
 | [] => []
 | x :: r => ren π x :: renL π r
end
def renO (π : List Nat) : List (Nat × SV) → List (Nat × SV)
 | [] => []
 | (j, x) :: r => (j, ren π x) :: renO π r
def renB (π : List Nat) : Blk → Blk
 | .cells ty k xs => .cells ty k (renL π xs)
 | .fam S es => .fam S ⟨es.es, renO π es.op, es.ly⟩
 | .iter m since seen => .iter (ren π m) since seen
 | b => b
theorem renO_mem {π : List Nat} : ∀ {op : List (Nat × SV)} {p : Nat × SV}, p ∈ renO π op → ∃ q, q ∈ op ∧ p = (q.1, ren π q.2)
 | [], p, h => by cases h
 | (j, x) :: r, p, h => by
   rcases List.mem_cons.1 h with rfl | h
   · exact ⟨_, List.mem_cons_self .., rfl⟩
   · obtain ⟨q, hq, e⟩ := renO_mem h; exact ⟨q, List.mem_cons_of_mem _ hq, e⟩
theorem renO_of {π : List Nat} : ∀ {op : List (Nat × SV)} {q : Nat × SV}, q ∈ op → (q.1, ren π q.2) ∈ renO π op
 | [], q, h => by cases h
 | (j, x) :: r, q, h => by
   rcases List.mem_cons.1 h with rfl | h
   · exact List.mem_cons_self ..
   · exact List.mem_cons_of_mem _ (renO_of h)
theorem renB_fam {π : List Nat} {b : Blk} {S : List Nat} {es : Fam} (h : renB π b = .fam S es) : ∃ es', b = .fam S es' ∧ es = ⟨es'.es, renO π es'.op, es'.ly⟩ := by
 cases b with
 | fam S' es' => simp only [renB, Blk.fam.injEq] at h; obtain ⟨rfl, rfl⟩ := h; exact ⟨es', rfl, rfl⟩
 | _ => simp [renB] at h
theorem at_ren {π : List Nat} {es : Fam} {j : Nat} {k : Value} {s : SV} {bl : List InB} : (⟨es.es, renO π es.op, es.ly⟩ : Fam).at j k s bl ↔ es.at j k s bl := by
 constructor
 · rintro ⟨h1, h2⟩; exact ⟨h1, fun p hp => h2 (p.1, Nice.ren π p.2) (renO_of hp)⟩
 · rintro ⟨h1, h2⟩
   refine ⟨h1, fun p hp => ?_⟩
   obtain ⟨q, hq, rfl⟩ := renO_mem hp
   exact h2 q hq
theorem FR.ren {M : Imm} {w : World} {b : Nat} {S : List Nat} {es : Fam} {π : List Nat} : FR M w b S ⟨es.es, renO π es.op, es.ly⟩ ↔ FR M w b S es :=
 ⟨fun h => h.shuts rfl fun j k s bl hj => ⟨k, at_ren.2 hj⟩, fun h => h.shuts rfl fun j k s bl hj => ⟨k, at_ren.1 hj⟩⟩
theorem renL_length (π : List Nat) : ∀ xs, (renL π xs).length = xs.length
 | [] => rfl
 | x :: r => by simp [renL, renL_length π r]
theorem renL_get (π : List Nat) : ∀ (xs : List SV) (i : Nat), (renL π xs)[i]? = (xs[i]?).map (ren π)
 | [], i => by simp [renL]
 | x :: r, 0 => by simp [renL]
 | x :: r, i + 1 => by simp [renL, renL_get π r i]
mutual
def SV.under (n : Nat) : SV → Bool
 | .ptr m _ _ | .sl m _ _ | .cs m _ _ | .op m _ | .map m => Nat.blt m n
 | .fn _ cs => underL n cs
 | .agg xs | .tup xs => underL n xs
 | .iface _ x => x.under n
 | _ => true
def underL (n : Nat) : List SV → Bool
 | [] => true
 | x :: r => x.under n && underL n r
end
def Blk.under (n : Nat) : Blk → Bool
 | .cells _ _ xs => underL n xs
 | .fam _ es => es.op.all fun e => e.2.under n
 | .iter m _ _ => m.under n
 | _ => true
theorem underL_get (n : Nat) : ∀ (xs : List SV), underL n xs = true → ∀ (i : Nat) (x : SV), xs[i]? = some x → x.under n = true
 | [], _, i, x, h => by simp at h
 | y :: r, hu, 0, x, h => by simp [underL] at hu h; subst h; exact hu.1
 | y :: r, hu, i + 1, x, h => by simp [underL] at hu h; exact underL_get n r hu.2 i x h
def back (π : List Nat) (ρ : Names) : Names := fun i => (π[i]?).bind ρ
theorem back_of {π : List Nat} {ρ : Names} {n : Nat} {x : Own} (hn : n < π.length) (h : ρ (π.getD n 0) = some x) : back π ρ n = some x := by
 simp only [back, List.getElem?_eq_getElem hn, Option.bind_some]
 simpa [List.getD, List.getElem?_eq_getElem hn] using h
theorem VR.back {M : Imm} {ρ : Names} {π : List Nat} {y : SV} {v : Value} (h : VR M ρ y v) : ∀ x, y = ren π x → x.under π.length = true → VR M (Nice.back π ρ) x v := by
 induction h with
 | any v => intro x hx hu; cases x <;> simp [ren] at hx; exact .any v
 | d z v h => intro x hx hu; cases x <;> simp [ren] at hx; subst hx; exact .d _ _ h
 | vp k len f i c b o cur T fz g hb hg hr =>
   intro x hx hu; cases x <;> simp [ren] at hx
   obtain ⟨rfl, rfl, rfl, rfl, rfl⟩ := hx
   exact .vp _ _ _ _ _ b o cur T fz g hb hg hr
 | ptr n i c z h =>
   intro x hx hu; cases x <;> simp [ren] at hx
   obtain ⟨rfl, rfl, rfl⟩ := hx
   exact .ptr _ _ _ z (back_of (by simpa [SV.under] using hu) h)
 | sl n o len z h hl hR h0 =>
   intro x hx hu; cases x <;> simp [ren] at hx
   obtain ⟨rfl, rfl, rfl⟩ := hx
   exact .sl _ _ _ z (back_of (by simpa [SV.under] using hu) h) hl hR h0
 | sl0 n o z h hR a =>
   intro x hx hu; cases x <;> simp [ren] at hx
   obtain ⟨rfl, rfl, rfl⟩ := hx
   exact .sl0 _ _ z (back_of (by simpa [SV.under] using hu) h) hR a
 | cs n c len z cap h hc =>
   intro x hx hu; cases x <;> simp [ren] at hx
   obtain ⟨rfl, rfl, rfl⟩ := hx
   exact .cs _ _ _ z cap (back_of (by simpa [SV.under] using hu) h) hc
 | opY n z h =>
   intro x hx hu; cases x <;> simp [ren] at hx
   obtain ⟨rfl, rfl⟩ := hx
   exact .opY _ z (back_of (by simpa [SV.under] using hu) h)
 | opN n =>
   intro x hx hu; cases x <;> simp [ren] at hx
   obtain ⟨rfl, rfl⟩ := hx
   exact .opN _
 | map n z h =>
   intro x hx hu; cases x <;> simp [ren] at hx
   subst hx
   exact .map _ z (back_of (by simpa [SV.under] using hu) h)
 | fn f caps vs g hs hg hr ih =>
   intro x hx hu; cases x with
   | fn f' cs =>
     simp [ren] at hx; obtain ⟨rfl, rfl⟩ := hx
     rw [renL_length] at hs hg
     refine .fn _ cs vs g hs hg fun i y hy => ih i (ren π y) (by rw [renL_get, hy]; rfl) y rfl ?_
     exact underL_get _ cs (by simpa [SV.under] using hu) i y hy
   | _ => simp [ren] at hx
 | agg xs vs g hs hg hr ih =>
   intro x hx hu; cases x with
   | agg cs =>
     simp [ren] at hx; subst hx
     rw [renL_length] at hs hg
     refine .agg cs vs g hs hg fun i y hy => ih i (ren π y) (by rw [renL_get, hy]; rfl) y rfl ?_
     exact underL_get _ cs (by simpa [SV.under] using hu) i y hy
   | _ => simp [ren] at hx
 | tup xs vs g hs hg hr ih =>
   intro x hx hu; cases x with
   | tup cs =>
     simp [ren] at hx; subst hx
     rw [renL_length] at hs hg
     refine .tup cs vs g hs hg fun i y hy => ih i (ren π y) (by rw [renL_get, hy]; rfl) y rfl ?_
     exact underL_get _ cs (by simpa [SV.under] using hu) i y hy
   | _ => simp [ren] at hx
 | iface t z v h ih =>
   intro x hx hu; cases x <;> simp [ren] at hx
   obtain ⟨rfl, rfl⟩ := hx
   exact .iface _ _ v (ih _ rfl (by simpa [SV.under] using hu))
theorem BR.back {M : Imm} {ρ : Names} {π : List Nat} {z : Own} {b : Blk} {o : Obj} (h : BR M ρ z (renB π b) o) (hu : b.under π.length = true) : BR M (Nice.back π ρ) z b o := by
 cases b with
 | cells ty k xs => cases o with
   | cells cur T fz =>
     obtain ⟨h1, h2, h3, h4, h5, h6⟩ := h
     rw [renL_length] at h5
     refine ⟨h1, h2, h3, h4, h5, fun j s hs => ?_⟩
     obtain ⟨v, hv, hr⟩ := h6 j (ren π s) (by rw [renL_get, hs]; rfl)
     exact ⟨v, hv, hr.back s rfl (underL_get _ xs hu j s hs)⟩
   | _ => exact h.elim
 | rows ty k len f => cases o <;> exact h
 | map es => cases o <;> exact h
 | fam S es => cases o with
   | map ents cl =>
     obtain ⟨h0, h1, h2, h3⟩ := h
     refine ⟨h0, h1, h2, fun p hp => ?_⟩
     obtain ⟨y, hy, hr⟩ := h3 _ (renO_of hp)
     exact ⟨y, hy, hr.back p.2 rfl ((List.all_eq_true.1 hu) p hp)⟩
   | cells cur T fz =>
     refine ⟨h.1, fun p hp => ?_⟩
     obtain ⟨y, hy, hr⟩ := h.2 _ (renO_of hp)
     exact ⟨y, hy, hr.back p.2 rfl ((List.all_eq_true.1 hu) p hp)⟩
   | _ => exact h.elim
 | iter m since seen => cases o with
   | mapIter mp s' seen' cl => exact ⟨h.1.back m rfl hu, h.2⟩
   | _ => exact h.elim
def tOf : List (Nat × SV) → Nat → SV
 | [], _ => .any
 | (k, v) :: r, n => bif Nat.beq n k then v else tOf r n
def hOf (l : List (Option Blk)) : Heap := fun n => (l.getD n none)
def stOf (tl : List (Nat × SV)) (hl : List (Option Blk)) : St := ⟨tOf tl, hOf hl, hl.length⟩
def tSub (π : List Nat) (t : Nat → SV) : List (Nat × SV) → Prop
 | [] => True
 | (k, v) :: r => t k = ren π v ∧ tSub π t r
def hSub (π all : List Nat) (h : Heap) : List (Option Blk) → Prop
 | [] => True
 | none :: r => hSub π.tail all h r
 | some b :: r => h (π.headD 0) = some (renB all b) ∧ hSub π.tail all h r
def tUnder (n : Nat) : List (Nat × SV) → Bool
 | [] => true
 | (_, v) :: r => v.under n && tUnder n r
def hUnder (n : Nat) : List (Option Blk) → Bool
 | [] => true
 | none :: r => hUnder n r
 | some b :: r => b.under n && hUnder n r
def pinOk (m : Nat) (π : List Nat) : Bool := (List.range m).all fun i => π[i]? == some i
def nodupB : List Nat → Bool
 | [] => true
 | x :: r => !(r.any (Nat.beq x)) && nodupB r
structure Sub (C : Ctx) (π : List Nat) (σ : St) (tl : List (Nat × SV)) (hl : List (Option Blk)) : Prop where
 ok : (Nat.beq π.length hl.length && (nodupB π && (pinOk C.m π && (tUnder hl.length tl && hUnder hl.length hl)))) = true
 t : tSub π σ.t tl
 h : hSub π π σ.h hl
theorem tSub_get {π : List Nat} {t : Nat → SV} {n : Nat} : ∀ {tl : List (Nat × SV)}, tSub π t tl → tUnder n tl = true → ∀ k, tOf tl k = .any ∨ (t k = ren π (tOf tl k) ∧ (tOf tl k).under n = true)
 | [], _, _, k => .inl rfl
 | (k', v) :: r, h, hu, k => by
   simp only [tOf]
   simp [tUnder] at hu
   cases e : Nat.beq k k' with
   | true => have := Nat.eq_of_beq_eq_true e; subst this; exact .inr ⟨h.1, hu.1⟩
   | false => exact tSub_get h.2 hu.2 k
theorem hSub_get {all : List Nat} {h : Heap} {n : Nat} : ∀ {hl : List (Option Blk)} {π : List Nat}, hSub π all h hl → π.length = hl.length → hUnder n hl = true →
   ∀ (i : Nat) (b : Blk), hl[i]? = some (some b) → ∃ j, π[i]? = some j ∧ h j = some (renB all b) ∧ b.under n = true
 | [], π, _, _, _, i, b, hi => by simp at hi
 | none :: r, [], _, hlen, _, i, b, hi => by simp at hlen
 | some c :: r, [], _, hlen, _, i, b, hi => by simp at hlen
 | none :: r, x :: π, h, hlen, hu, 0, b, hi => by simp at hi
 | none :: r, x :: π, h, hlen, hu, i + 1, b, hi => by
   obtain ⟨j, h1, h2⟩ := hSub_get (hl := r) (π := π) (by simpa [hSub] using h) (by simpa using hlen) (by simpa [hUnder] using hu) i b (by simpa using hi)
   exact ⟨j, by simpa using h1, h2⟩
 | some c :: r, x :: π, h, hlen, hu, 0, b, hi => by
   simp at hi; subst hi
   simp [hUnder] at hu
   simp only [hSub, List.headD_cons] at h
   exact ⟨x, rfl, h.1, hu.1⟩
 | some c :: r, x :: π, h, hlen, hu, i + 1, b, hi => by
   simp [hUnder] at hu
   simp only [hSub, List.tail_cons] at h
   obtain ⟨j, h1, h2⟩ := hSub_get (hl := r) (π := π) h.2 (by simpa using hlen) hu.2 i b (by simpa using hi)
   exact ⟨j, by simpa using h1, h2⟩
theorem nodupB_inj : ∀ {π : List Nat}, nodupB π = true → ∀ (i j n : Nat), π[i]? = some n → π[j]? = some n → i = j
 | [], _, i, j, n, hi, _ => by simp at hi
 | x :: r, h, 0, 0, n, _, _ => rfl
 | x :: r, h, 0, j + 1, n, hi, hj => by
   simp [nodupB] at h hi hj
   subst hi
   have := h.1 x (List.mem_of_getElem? hj)
   simp at this
 | x :: r, h, i + 1, 0, n, hi, hj => by
   simp [nodupB] at h hi hj
   subst hj
   have := h.1 x (List.mem_of_getElem? hi)
   simp at this
 | x :: r, h, i + 1, j + 1, n, hi, hj => by
   simp [nodupB] at h hi hj
   have := nodupB_inj h.2 i j n hi hj
   omega
theorem hOf_some {hl : List (Option Blk)} {i : Nat} {b : Blk} (h : hOf hl i = some b) : hl[i]? = some (some b) := by
 unfold hOf at h
 rw [List.getD_eq_getElem?_getD] at h
 cases e : hl[i]? with
 | none => rw [e] at h; simp at h
 | some x => rw [e] at h; simp at h; rw [h]
theorem pinOk_get {m : Nat} {π : List Nat} (h : pinOk m π = true) : ∀ i, i < m → π[i]? = some i := by
 intro i hi
 simp only [pinOk, List.all_eq_true, List.mem_range] at h
 have := h i hi
 simpa using this
theorem Sub.rel {C : Ctx} {π : List Nat} {σ : St} {tl : List (Nat × SV)} {hl : List (Option Blk)} (hsub : Sub C π σ tl hl) {M F : Imm} {pin ρ : Names} {a : Act} {w : World}
   (hs : SR0 C M F pin ρ σ a w) : SR C M F pin (back π ρ) (stOf tl hl) a w := by
 obtain ⟨hok, ht, hh⟩ := hsub
 simp only [Bool.and_eq_true] at hok
 obtain ⟨hlen, hnd, hpin, htu, hhu⟩ := hok
 have hlen := Nat.eq_of_beq_eq_true hlen
 refine ⟨⟨fun k => ?_, hs.sz, hs.df, ?_, ?_, hs.pm, hs.gl⟩, ?_⟩
 · rcases tSub_get ht htu k with e | ⟨e, hu⟩
   · show VR M _ (tOf tl k) _; rw [e]; exact .any _
   · exact (hs.tm k).back _ e (by rw [hlen]; exact hu)
 · refine ⟨hs.hr.imm, hs.hr.frm, hs.hr.dis, ?_, ?_, ?_⟩
   rotate_right
   · intro i S es hi
     obtain ⟨j, hj, hb, _⟩ := hSub_get hh hlen hhu i _ (hOf_some hi)
     obtain ⟨x, hx, g0, g1, g2, g3, g4⟩ := hs.hr.fam j S _ hb
     refine ⟨x, by simp [back, hj, hx], g0, g1, fun p y hp hy h0y => ?_, fun p S' es' hpi hp => ?_, FR.ren.1 g4⟩
     · obtain ⟨bp, hbp⟩ := Option.ne_none_iff_exists'.1 hp
       obtain ⟨q, hq, hqb, _⟩ := hSub_get hh hlen hhu p bp (hOf_some hbp)
       simp only [back, hq, Option.bind_some] at hy
       exact g2 q y (by rw [hqb]; simp) hy h0y
     · obtain ⟨q, hq, hqb, _⟩ := hSub_get hh hlen hhu p _ (hOf_some hp)
       refine g3 q S' _ (fun e => hpi ?_) hqb
       subst e
       exact nodupB_inj hnd p i q hq hj
   · intro i b hi
     obtain ⟨j, hj, hb, hu⟩ := hSub_get hh hlen hhu i b (hOf_some hi)
     obtain ⟨x, hx, hr⟩ := hs.hr.live j _ hb
     refine ⟨x, by simp [back, hj, hx], ?_⟩
     rcases hr with ⟨h0, hg⟩ | ⟨h0, h1, h2, o, h3, h4⟩
     · refine .inl ⟨h0, ?_⟩
       cases b <;> simp_all [renB, Blk.ghost]
     · exact .inr ⟨h0, h1, h2, o, h3, h4.back (by rw [hlen]; exact hu)⟩
   · intro p q x y hp hq hx hy h0x h0y hb
     obtain ⟨bp, hbp⟩ := Option.ne_none_iff_exists'.1 hp
     obtain ⟨bq, hbq⟩ := Option.ne_none_iff_exists'.1 hq
     obtain ⟨i, hi, hip, _⟩ := hSub_get hh hlen hhu p bp (hOf_some hbp)
     obtain ⟨j, hj, hjq, _⟩ := hSub_get hh hlen hhu q bq (hOf_some hbq)
     simp only [back, hi, hj, Option.bind_some] at hx hy
     have := hs.hr.sep i j x y (by rw [hip]; simp) (by rw [hjq]; simp) hx hy h0x h0y hb
     subst this
     exact nodupB_inj hnd p q i hi hj
 · intro n x hn
   have hn' := hs.pm n x hn
   simp [back, pinOk_get hpin n hn', hs.pn n x hn]
 · intro n hn
   have : π[n]? = none := by rw [List.getElem?_eq_none_iff, hlen]; exact hn
   simp [back, this]
theorem W_sub {C : Ctx} {c : Code} {Q : Exit → St → Prop} {σ : St} (π : List Nat) (tl : List (Nat × SV)) (hl : List (Option Blk)) (hsub : Sub C π σ tl hl) (h : W C c Q (stOf tl hl)) : W C c Q σ :=
 fun M F pin ρ a w hs => h M F pin _ a w (hsub.rel hs.toSR0)
theorem W_loop {C : Ctx} {c : Code} {Q : Exit → St → Prop} {σ : St} {α : Type} (tl : α → List (Nat × SV)) (hl : α → List (Option Blk)) (I : α → Prop) (μ : α → Nat) (x0 : α) (π : List Nat)
   (h0 : I x0) (hsub : Sub C π σ (tl x0) (hl x0))
   (round : ∀ x, I x → W C c (thenQ (fun σ' => ∃ x' π, I x' ∧ μ x' < μ x ∧ Sub C π σ' (tl x') (hl x')) Q) (stOf (tl x) (hl x))) : W C (.loop c) Q σ := by
 refine W_loop0 (fun n σ' => ∃ x π, I x ∧ μ x = n ∧ Sub C π σ' (tl x) (hl x)) (μ x0) ⟨x0, π, h0, rfl, hsub⟩ ?_
 rintro n σ' ⟨x, π', hx, rfl, hsub'⟩
 refine W_sub π' _ _ hsub' (W_mono (round x hx) ?_)
 intro e σ'' hq
 cases e with
 | normal =>
   obtain ⟨x', p, h1, h2, h3⟩ := hq
   exact ⟨_, h2, x', p, h1, rfl, h3⟩
 | _ => exact hq
end Go.Proofs.YtpdojmebloekgaaDoor.Nice
namespace Go.Proofs.YtpdojmebloekgaaDoor.Nice
open Go
set_option linter.unusedVariables false
def St.app (σ : St) (dst : Option Tmp) (u : SV) (wr : List (Nat × Option Blk)) : St :=
 ⟨match dst with | some d => upd σ.t d u | none => σ.t, wrH σ.h wr, σ.nx⟩
def OpOK (C : Ctx) (o : Oper) (nm : Nat) (v : Operand → SV) (bs : List (Nat × Blk)) (RS : SV → List (Nat × Option Blk) → Prop) : Prop :=
 ∀ M F ρ a h w, (∀ x, x ∈ o.op.operands → VR M ρ (v x) (a.eval x)) → (∀ g ρ, VR M ρ (C.G g) (.pointer (some ⟨g, 0, none⟩))) → HR M F ρ h w → (∀ p, p ∈ bs → h p.1 = some p.2) → (∀ n, nm ≤ n → n < nm + 8 → ρ n = none) →
   ∀ (K : Act → World → Prop) (Q : Go.Exit → Act → World → Prop),
     (∀ M' ρ' u wr u' w', M.le M' → ρ.le ρ' → (∀ n, n < nm ∨ nm + 8 ≤ n → ρ' n = ρ n) → RS u wr → VR M' ρ' u u' → HR M' F ρ' (wrH h wr) w' → Same w w' → K (a.put o.dst u') w') → o.wp C.P a w K Q
abbrev FP := List Nat × List Nat
def gslot (ops : List Oper) (j : Nat) : Option Tmp := (ops[j]?).bind (·.dst)
def gOn (ops : List Oper) (t : Nat → SV) (o : Oper) : Prop :=
 match o.guard with
 | none => True
 | some (j, want) => ∃ s, gslot ops j = some s ∧ t s = SV.b want
def gOff (ops : List Oper) (t : Nat → SV) (o : Oper) : Prop :=
 match o.guard with
 | none => False
 | some (j, want) => ∃ s, gslot ops j = some s ∧ (t s = SV.b (!want) ∨ t s = .tup [])
def keysIn (bs : List (Nat × Blk)) (nm : Nat) (wr : List (Nat × Option Blk)) : Bool :=
 wr.all fun p => (bs.any fun q => Nat.beq q.1 p.1) || (Nat.ble nm p.1 && Nat.blt p.1 (nm + 8))
def dstOK (C : Ctx) (o : Oper) : Bool := match o.dst with | none => true | some d => Nat.blt d C.sz
def D1 (C : Ctx) (ops : List Oper) (nm : Nat) (o : Oper) (σ : St) (fp : FP) (σ' : St) : Prop :=
 dstOK C o = true ∧
 ((gOn ops σ.t o ∧ ∃ bs u wr, OpOK C o nm (opv C σ.t) bs (fun x y => x = u ∧ y = wr) ∧ (∀ p, p ∈ bs → σ.h p.1 = some p.2) ∧ keysIn bs nm wr = true ∧
     fp = (bs.map (·.1), wr.map (·.1)) ∧ σ' = σ.app o.dst u wr) ∨
  (gOff ops σ.t o ∧ fp = ([], []) ∧ σ' = σ.app o.dst (.tup []) []))
/- which operations stand ahead of which -/
def edgesOf (o : Oper) : List Nat := (o.after.toList.filter (Region.binds .any)).map (·.on)
def reachFrom : List Oper → List (List Nat) → List (List Nat)
 | [], acc => acc
 | o :: l, acc => reachFrom l (acc ++ [(edgesOf o).flatMap fun e => e :: acc.getD e []])
def reach (ops : List Oper) : List (List Nat) := reachFrom ops []
def looksL (ops : List Oper) (o : Oper) : List Nat :=
 (o.op.operands.toList.filterMap fun | .tmp t => some t | _ => none) ++ (match o.guard with | some (g, _) => (gslot ops g).toList | none => [])
def meets (a b : List Nat) : Bool := a.any fun x => b.any (Nat.beq x)
def indepB (ops : List Oper) (x y : Oper) (f g : FP) : Bool :=
 (match x.dst with | some d => !(looksL ops y).any (Nat.beq d) && (match y.dst with | some e => !Nat.beq d e | none => true) | none => true) &&
 (match y.dst with | some d => !(looksL ops x).any (Nat.beq d) | none => true) &&
 !meets f.2 (g.1 ++ g.2) && !meets g.2 f.1
def pairsOK (ops : List Oper) (fps : List FP) (rs : List (List Nat)) (o : Oper) (f : FP) (r : List Nat) : Nat → Bool
 | 0 => true
 | j + 1 => (r.any (Nat.beq j) || (match ops[j]?, fps[j]? with | some p, some g => indepB ops p o g f | _, _ => false)) && pairsOK ops fps rs o f r j
def allOK (ops : List Oper) (fps : List FP) (rs : List (List Nat)) : Nat → Bool
 | 0 => true
 | i + 1 => (match ops[i]?, fps[i]? with | some o, some f => (edgesOf o).all (fun e => Nat.blt e i) && pairsOK ops fps rs o f (rs.getD i []) i | _, _ => false) && allOK ops fps rs i
def fpOK (ops : List Oper) (fps : List FP) : Bool := Nat.beq fps.length ops.length && allOK ops fps (reach ops) ops.length
def chk (ops : List Oper) : Option (List FP) → Prop
 | none => True
 | some l => fpOK ops l = true
def wops (C : Ctx) (ops0 : List Oper) : Nat → List Oper → St → Option (List FP) → (St → Prop) → Prop
 | _, [], σ, acc, K => chk ops0 acc ∧ K ⟨σ.t, σ.h, σ.nx + 8 * ops0.length⟩
 | i, o :: l, σ, acc, K =>
   (∃ fp σ', D1 C ops0 (σ.nx + 8 * i) o σ fp σ' ∧ wops C ops0 (i + 1) l σ' (acc.map (· ++ [fp])) K) ∨
   (acc = none ∧ dstOK C o = true ∧ gOn ops0 σ.t o ∧ ∃ bs RS, OpOK C o (σ.nx + 8 * i) (opv C σ.t) bs RS ∧ (∀ p, p ∈ bs → σ.h p.1 = some p.2) ∧
     ∀ u wr, RS u wr → wops C ops0 (i + 1) l (σ.app o.dst u wr) none K)
theorem getD_put_same {a : Act} {d : Nat} {v : Value} (h : d < a.tmps.size) : (a.put (some d) v).tmps.getD d undef = v := by
 simp [Act.put, Array.getD, h]
theorem getD_put_other {a : Act} {d k : Nat} {v : Value} (h : k ≠ d) : (a.put (some d) v).tmps.getD k undef = a.tmps.getD k undef := by
 simp only [Act.put]
 rw [Array.getD_eq_getD_getElem?, Array.getD_eq_getD_getElem?, Array.getElem?_setIfInBounds_ne (Ne.symm h)]
theorem SR0.app {C : Ctx} {M M' F : Imm} {pin ρ ρ' : Names} {σ : St} {a : Act} {w w' : World} (hs : SR0 C M F pin ρ σ a w) {o : Oper} (hd : dstOK C o = true) {u : SV} {wr : List (Nat × Option Blk)} {u' : Value}
   (hM : M.le M') (hρ : ρ.le ρ') (hv : VR M' ρ' u u') (hh : HR M' F ρ' (wrH σ.h wr) w') : SR0 C M' F pin ρ' (σ.app o.dst u wr) (a.put o.dst u') w' := by
 refine ⟨fun k => ?_, ?_, ?_, hh, Names.le_trans hs.pn hρ, hs.pm, fun g ρ => (hs.gl g ρ).mono hM (Names.le_refl _)⟩
 · cases ho : o.dst with
   | none => exact (hs.tm k).mono hM hρ
   | some d =>
     have hlt : d < a.tmps.size := by rw [hs.sz]; simpa [dstOK, ho] using hd
     show VR M' ρ' (upd σ.t d u k) _
     rw [upd_eq]
     split
     · next e => subst e; rw [getD_put_same hlt]; exact hv
     · next e => rw [getD_put_other e]; exact (hs.tm k).mono hM hρ
 · cases o.dst <;> simp [Act.put, hs.sz]
 · cases o.dst <;> simp [Act.put, hs.df]
theorem wanted_on {C : Ctx} {M F : Imm} {pin ρ : Names} {σ : St} {a : Act} {w : World} (hs : SR0 C M F pin ρ σ a w) {ops : Array Oper} {o : Oper} (h : gOn ops.toList σ.t o) : Region.wanted o (yielded ops a.tmps) = true := by
 unfold gOn at h
 unfold Region.wanted
 cases hg : o.guard with
 | none => rfl
 | some p =>
   obtain ⟨j, want⟩ := p
   simp only [hg] at h ⊢
   obtain ⟨s, h1, h2⟩ := h
   have hv := hs.tm s
   rw [h2] at hv
   have hv := hv.bool
   have hlt : s < a.tmps.size := by
     rcases Nat.lt_or_ge s a.tmps.size with h | h
     · exact h
     · simp [Array.getD, Nat.not_lt.2 h, undef] at hv
   have : a.tmps[s]? = some (.bool want) := by
     rw [Array.getD_eq_getD_getElem?, Array.getElem?_eq_getElem hlt] at hv
     rw [Array.getElem?_eq_getElem hlt]
     simpa using hv
   have h1' : (ops[j]?).bind (·.dst) = some s := by simpa [gslot] using h1
   simp [yielded, h1', this]
theorem wanted_off {C : Ctx} {M F : Imm} {pin ρ : Names} {σ : St} {a : Act} {w : World} (hs : SR0 C M F pin ρ σ a w) {ops : Array Oper} {o : Oper} (h : gOff ops.toList σ.t o) : Region.wanted o (yielded ops a.tmps) = false := by
 unfold gOff at h
 unfold Region.wanted
 cases hg : o.guard with
 | none => simp [hg] at h
 | some p =>
   obtain ⟨j, want⟩ := p
   simp only [hg] at h ⊢
   obtain ⟨s, h1, h2⟩ := h
   have hv := hs.tm s
   have h1' : (ops[j]?).bind (·.dst) = some s := by simpa [gslot] using h1
   rcases h2 with h2 | h2
   · rw [h2] at hv
     have hv := hv.bool
     have hlt : s < a.tmps.size := by
       rcases Nat.lt_or_ge s a.tmps.size with h | h
       · exact h
       · simp [Array.getD, Nat.not_lt.2 h, undef] at hv
     have : a.tmps[s]? = some (.bool !want) := by
       rw [Array.getD_eq_getD_getElem?, Array.getElem?_eq_getElem hlt] at hv
       rw [Array.getElem?_eq_getElem hlt]
       simpa using hv
     simp [yielded, h1', this]
   · rw [h2] at hv
     cases e : a.tmps[s]? with
     | none => simp [yielded, h1', e]
     | some q =>
       have : a.tmps.getD s undef = q := by rw [Array.getD_eq_getD_getElem?, e]; rfl
       rw [this] at hv
       cases hv; simp [yielded, h1', e]
theorem VR.skip {M : Imm} {ρ : Names} : VR M ρ (.tup []) undef := .tup [] #[] (fun _ => undef) rfl (fun i hi => by simp at hi) (fun i x hx => by simp at hx)
theorem wops_text {C : Ctx} {ops : Array Oper} {K : St → Prop} {Q : Go.Exit → Act → World → Prop} {M0 F : Imm} {pin : Names} {w0 : World}
   (hfin : ∀ M' ρ' σ' a' w', M0.le M' → SR C M' F pin ρ' σ' a' w' → Same w0 w' → K σ' → Q .normal a' w') :
   ∀ (l : List Oper) (i : Nat) (σ : St) (M : Imm) (ρ : Names) (a : Act) (w : World), i + l.length = ops.toList.length → M0.le M → Same w0 w → SR0 C M F pin ρ σ a w → (∀ n, σ.nx + 8 * i ≤ n → ρ n = none) →
     wops C ops.toList i l σ none K → wpList C.P ops Q l a w := by
 intro l
 induction l with
 | nil =>
   intro i σ M ρ a w hi hM hw hs hf h
   obtain ⟨_, hK⟩ := h
   refine hfin M ρ ⟨σ.t, σ.h, σ.nx + 8 * ops.toList.length⟩ a w hM ⟨⟨hs.tm, hs.sz, hs.df, hs.hr, hs.pn, hs.pm, hs.gl⟩, ?_⟩ hw hK
   intro n hn
   simp only [List.length_nil, Nat.add_zero] at hi
   rw [← hi] at hn
   exact hf n hn
 | cons o l ih =>
   intro i σ M ρ a w hi hM hw hs hf h
   have hi' : (i + 1) + l.length = ops.toList.length := by simp only [List.length_cons] at hi; omega
   have on : ∀ (hd : dstOK C o = true) (hg : gOn ops.toList σ.t o) bs RS, OpOK C o (σ.nx + 8 * i) (opv C σ.t) bs RS → (∀ p, p ∈ bs → σ.h p.1 = some p.2) →
       (∀ u wr, RS u wr → wops C ops.toList (i + 1) l (σ.app o.dst u wr) none K) → wpList C.P ops Q (o :: l) a w := by
     intro hd hg bs RS hok hbs hnext
     unfold wpList
     rw [wanted_on hs hg]
     simp only [if_true]
     refine .inl (hok M F ρ a σ.h w (fun x _ => opv_rel hs x) hs.gl hs.hr hbs (fun n h1 h2 => hf n h1) _ _ ?_)
     intro M' ρ' u wr u' w' h1 h2 h3 h4 h5 h6 h7
     refine ih (i + 1) _ M' ρ' _ w' hi' (Imm.le_trans hM h1) (hw.trans h7) (hs.app hd h1 h2 h5 h6) ?_ (hnext u wr h4)
     intro n hn
     have hn' : σ.nx + 8 * (i + 1) ≤ n := hn
     rw [h3 n (.inr (by omega))]
     exact hf n (by omega)
   unfold wops at h
   rcases h with ⟨fp, σ', ⟨hd, hD⟩, hrest⟩ | ⟨_, hd, hg, bs, RS, hok, hbs, hnext⟩
   · rcases hD with ⟨hg, bs, u, wr, hok, hbs, _, _, rfl⟩ | ⟨hg, _, rfl⟩
     · exact on hd hg bs _ hok hbs (fun u' wr' ⟨e1, e2⟩ => by subst e1; subst e2; exact hrest)
     · unfold wpList
       rw [wanted_off hs hg]
       simp only [Bool.false_eq_true, if_false]
       refine ih (i + 1) _ M ρ _ w hi' hM hw (hs.app (wr := []) hd (Imm.le_refl _) (Names.le_refl _) VR.skip hs.hr) ?_ hrest
       intro n hn
       have hn' : σ.nx + 8 * (i + 1) ≤ n := hn
       exact hf n (by omega)
   · exact on hd hg bs RS hok hbs hnext
theorem W_region {C : Ctx} {id : Nat} {ops : Array Oper} {Q : Exit → St → Prop} {σ : St} (h : wops C ops.toList 0 ops.toList σ none (fun σ' => Q .normal σ')) : W C (.region id ops false) Q σ := by
 intro M F pin ρ a w hs
 refine wp_region_list (wops_text (K := fun σ' => Q .normal σ') (M0 := M) (F := F) (pin := pin) (w0 := w) ?_ ops.toList 0 σ M ρ a w (by simp) (Imm.le_refl _) (.refl _) hs.toSR0 (fun n hn => hs.fr n (by omega)) h)
 intro M' ρ' σ' a' w' h1 h2 h3 h4
 exact ⟨M', ρ', σ', h1, h2, h3, h4⟩
/- a region that draws its order -/
theorem wrH_get (h : Heap) : ∀ (wr : List (Nat × Option Blk)) (n : Nat), (∀ p, p ∈ wr → p.1 ≠ n) → wrH h wr n = h n
 | [], n, _ => rfl
 | (m, b) :: r, n, hn => by
   rw [wrH, wrH_get (upd h m b) r n fun p hp => hn p (List.mem_cons_of_mem _ hp), upd_other]
   exact (hn (m, b) (List.mem_cons_self ..)).symm
theorem wrH_upd (h : Heap) : ∀ (wr : List (Nat × Option Blk)) (n : Nat) (b : Option Blk), (∀ p, p ∈ wr → p.1 ≠ n) → wrH (upd h n b) wr = upd (wrH h wr) n b
 | [], n, b, _ => rfl
 | (m, c) :: r, n, b, hn => by
   rw [wrH, wrH, ← wrH_upd (upd h m c) r n b fun p hp => hn p (List.mem_cons_of_mem _ hp), upd_comm _ _ _ _ _ (hn (m, c) (List.mem_cons_self ..)).symm]
theorem wrH_comm (h : Heap) : ∀ (w1 w2 : List (Nat × Option Blk)), (∀ p, p ∈ w1 → ∀ q, q ∈ w2 → q.1 ≠ p.1) → wrH (wrH h w1) w2 = wrH (wrH h w2) w1
 | [], w2, _ => rfl
 | (m, b) :: r, w2, hd => by
   rw [wrH, wrH, wrH_comm (upd h m b) r w2 fun p hp => hd p (List.mem_cons_of_mem _ hp), wrH_upd h w2 m b (hd (m, b) (List.mem_cons_self ..))]
theorem meets_false {a b : List Nat} (h : (!meets a b) = true) : ∀ x, x ∈ a → x ∉ b := by
 intro x hx hb
 simp only [meets, Bool.not_eq_true'] at h
 have : (a.any fun x => b.any (Nat.beq x)) = true := by
   rw [List.any_eq_true]
   exact ⟨x, hx, by rw [List.any_eq_true]; exact ⟨x, hb, by simp⟩⟩
 rw [this] at h; cases h
theorem anyBeq_false {l : List Nat} {d : Nat} (h : (!l.any (Nat.beq d)) = true) : d ∉ l := by
 intro hm
 have : l.any (Nat.beq d) = true := by rw [List.any_eq_true]; exact ⟨d, hm, by simp⟩
 rw [this] at h; cases h
theorem indepB_spec {ops : List Oper} {x y : Oper} {f g : FP} (h : indepB ops x y f g = true) :
   (∀ d, x.dst = some d → d ∉ looksL ops y) ∧ (∀ d, x.dst = some d → y.dst ≠ some d) ∧ (∀ d, y.dst = some d → d ∉ looksL ops x) ∧
   (∀ n, n ∈ f.2 → n ∉ g.1 ∧ n ∉ g.2) ∧ (∀ n, n ∈ g.2 → n ∉ f.1) := by
 simp only [indepB, Bool.and_eq_true] at h
 obtain ⟨⟨⟨h1, h2⟩, h3⟩, h4⟩ := h
 refine ⟨?_, ?_, ?_, ?_, ?_⟩
 · intro d hd; rw [hd] at h1; simp only [Bool.and_eq_true] at h1; exact anyBeq_false h1.1
 · intro d hd he; rw [hd] at h1; rw [he] at h1; simp at h1
 · intro d hd; rw [hd] at h2; exact anyBeq_false h2
 · intro n hn
   have := meets_false h3 n hn
   exact ⟨fun e => this (List.mem_append_left _ e), fun e => this (List.mem_append_right _ e)⟩
 · intro n hn; exact meets_false h4 n hn
theorem opv_app {C : Ctx} {ops : List Oper} {o x : Oper} {t : Nat → SV} {u : SV} (hx : ∀ d, x.dst = some d → d ∉ looksL ops o) :
   ∀ y, y ∈ o.op.operands → opv C (match x.dst with | some d => upd t d u | none => t) y = opv C t y := by
 intro y hy
 cases hd : x.dst with
 | none => rfl
 | some d =>
   cases y with
   | tmp k =>
     show upd t d u k = t k
     refine upd_other _ _ _ _ ?_
     rintro rfl
     exact hx _ hd (List.mem_append_left _ (List.mem_filterMap.2 ⟨.tmp k, Array.mem_toList_iff.2 hy, rfl⟩))
   | const v => cases v <;> first | rfl | (rename_i a l c; cases a <;> cases l <;> cases c <;> rfl)
   | global g => rfl
   | func f => rfl
theorem guard_app {ops : List Oper} {o x : Oper} {t : Nat → SV} {u : SV} (hx : ∀ d, x.dst = some d → d ∉ looksL ops o) :
   ∀ j want s, o.guard = some (j, want) → gslot ops j = some s → (match x.dst with | some d => upd t d u | none => t) s = t s := by
 intro j want s hg hs
 cases hd : x.dst with
 | none => rfl
 | some d =>
   show upd t d u s = t s
   refine upd_other _ _ _ _ ?_
   rintro rfl
   exact hx _ hd (List.mem_append_right _ (by rw [hg]; simp [hs]))
theorem D1_same {C : Ctx} {ops : List Oper} {nm : Nat} {o : Oper} {σ τ : St} {fp : FP} {σ' : St} (h : D1 C ops nm o σ fp σ')
   (hv : ∀ y, y ∈ o.op.operands → opv C τ.t y = opv C σ.t y) (hg : ∀ j want s, o.guard = some (j, want) → gslot ops j = some s → τ.t s = σ.t s) (hh : ∀ n, n ∈ fp.1 → τ.h n = σ.h n) :
   ∃ u wr, wr.map (·.1) = fp.2 ∧ σ' = σ.app o.dst u wr ∧ D1 C ops nm o τ fp (τ.app o.dst u wr) := by
 obtain ⟨hd, h⟩ := h
 rcases h with ⟨hgo, bs, u, wr, hok, hbs, hk, rfl, rfl⟩ | ⟨hgo, rfl, rfl⟩
 · refine ⟨u, wr, rfl, rfl, hd, .inl ⟨?_, bs, u, wr, ?_, ?_, hk, rfl, rfl⟩⟩
   · unfold gOn at *
     cases e : o.guard with
     | none => trivial
     | some p => obtain ⟨j, want⟩ := p; rw [e] at hgo; obtain ⟨s, h1, h2⟩ := hgo; exact ⟨s, h1, (hg j want s e h1).trans h2⟩
   · intro M F ρ a h w hx
     exact hok M F ρ a h w fun y hy => by rw [← hv y hy]; exact hx y hy
   · intro p hp
     rw [hh p.1 (List.mem_map.2 ⟨p, hp, rfl⟩)]; exact hbs p hp
 · refine ⟨.tup [], [], rfl, rfl, hd, .inr ⟨?_, rfl, rfl⟩⟩
   unfold gOff at *
   cases e : o.guard with
   | none => rw [e] at hgo; exact hgo
   | some p => obtain ⟨j, want⟩ := p; rw [e] at hgo; obtain ⟨s, h1, h2⟩ := hgo; exact ⟨s, h1, (match h2 with | .inl h3 => .inl ((hg j want s e h1).trans h3) | .inr h3 => .inr ((hg j want s e h1).trans h3))⟩
theorem app_comm (σ : St) {x y : Option Tmp} {u v : SV} {w1 w2 : List (Nat × Option Blk)} (hd : ∀ d, x = some d → y ≠ some d) (hw : ∀ n, n ∈ w1.map (·.1) → n ∉ w2.map (·.1)) :
   (σ.app x u w1).app y v w2 = (σ.app y v w2).app x u w1 := by
 have e : wrH (wrH σ.h w1) w2 = wrH (wrH σ.h w2) w1 := wrH_comm _ _ _ fun p hp q hq hpq => hw p.1 (List.mem_map.2 ⟨p, hp, rfl⟩) (List.mem_map.2 ⟨q, hq, hpq⟩)
 unfold St.app
 simp only [e]
 cases x with
 | none => cases y <;> rfl
 | some d => cases y with
   | none => rfl
   | some e => simp only [upd_comm σ.t d e u v (fun h => hd d rfl (h ▸ rfl))]
theorem D1_swap {C : Ctx} {ops : List Oper} {n1 n2 : Nat} {x y : Oper} {σ σ1 σ2 : St} {f g : FP} (hi : indepB ops x y f g = true)
   (h1 : D1 C ops n1 x σ f σ1) (h2 : D1 C ops n2 y σ1 g σ2) : ∃ τ, D1 C ops n2 y σ g τ ∧ D1 C ops n1 x τ f σ2 := by
 obtain ⟨i1, i2, i3, i4, i5⟩ := indepB_spec hi
 obtain ⟨u, wr, hw, rfl, _⟩ := D1_same (τ := σ) h1 (fun _ _ => rfl) (fun _ _ _ _ _ => rfl) (fun _ _ => rfl)
 obtain ⟨v, wr2, hw2, rfl, k2⟩ := D1_same (τ := σ) h2 (fun z hz => (opv_app (t := σ.t) i1 z hz).symm) (fun j want s hg hs => (guard_app (t := σ.t) (u := u) i1 j want s hg hs).symm)
   (fun n hn => (wrH_get σ.h wr n fun p hp e => (i4 p.1 (hw ▸ List.mem_map.2 ⟨p, hp, rfl⟩)).1 (e ▸ hn)).symm)
 refine ⟨_, k2, ?_⟩
 obtain ⟨u', wr', hw', he, k1⟩ := D1_same (τ := σ.app y.dst v wr2) h1 (fun z hz => opv_app (t := σ.t) i3 z hz) (fun j want s hg hs => guard_app (t := σ.t) (u := v) i3 j want s hg hs)
   (fun n hn => wrH_get σ.h wr2 n fun p hp e => i5 p.1 (hw2 ▸ List.mem_map.2 ⟨p, hp, rfl⟩) (e ▸ hn))
 have e2 : (σ.app x.dst u wr).app y.dst v wr2 = (σ.app x.dst u' wr').app y.dst v wr2 := by rw [he]
 rw [e2, app_comm σ (fun d hd he => i2 d hd he) (by rw [hw', hw2]; exact fun n hn => (i4 n hn).2)]
 exact k1
def Runs (C : Ctx) (ops : List Oper) (fps : List FP) (nx : Nat) : List Nat → St → St → Prop
 | [], σ, τ => σ = τ
 | i :: l, σ, τ => ∃ o f σ', ops[i]? = some o ∧ fps[i]? = some f ∧ D1 C ops (nx + 8 * i) o σ f σ' ∧ Runs C ops fps nx l σ' τ
theorem Runs_front {C : Ctx} {ops : List Oper} {fps : List FP} {nx i : Nat} {oi : Oper} {fi : FP} (ho : ops[i]? = some oi) (hf : fps[i]? = some fi) :
   ∀ (A B : List Nat) (σ τ : St), (∀ j, j ∈ A → ∀ o f, ops[j]? = some o → fps[j]? = some f → indepB ops o oi f fi = true) → Runs C ops fps nx (A ++ i :: B) σ τ →
     Runs C ops fps nx (i :: (A ++ B)) σ τ
 | [], B, σ, τ, _, h => h
 | j :: A, B, σ, τ, hA, h => by
   obtain ⟨o, f, σ1, h1, h2, h3, h4⟩ := h
   obtain ⟨o', f', σ2, k1, k2, k3, k4⟩ := Runs_front ho hf A B σ1 τ (fun j hj => hA j (List.mem_cons_of_mem _ hj)) h4
   rw [ho] at k1; rw [hf] at k2
   obtain rfl := Option.some.inj k1
   obtain rfl := Option.some.inj k2
   obtain ⟨τ1, t1, t2⟩ := D1_swap (hA j (List.mem_cons_self ..) o f h1 h2) h3 k3
   exact ⟨oi, fi, τ1, ho, hf, t1, o, f, σ2, h1, h2, t2, k4⟩
theorem reachFrom_get : ∀ (l : List Oper) (acc : List (List Nat)) (i : Nat), (∀ o, l[i]? = some o → (reachFrom l acc).getD (acc.length + i) [] = (edgesOf o).flatMap fun e => e :: (if e < acc.length + i then (reachFrom l acc).getD e [] else (reachFrom (l.take i) acc).getD e [])) := by
 have keep : ∀ (l : List Oper) (acc : List (List Nat)) (k : Nat), k < acc.length → (reachFrom l acc).getD k [] = acc.getD k [] := by
   intro l
   induction l with
   | nil => intro acc k hk; rfl
   | cons o l ih =>
     intro acc k hk
     rw [reachFrom, ih _ k (by simp; omega)]
     simp [List.getD_eq_getElem?_getD, List.getElem?_append_left hk]
 have len : ∀ (l : List Oper) (acc : List (List Nat)), (reachFrom l acc).length = acc.length + l.length := by
   intro l
   induction l with
   | nil => intro acc; rfl
   | cons o l ih => intro acc; rw [reachFrom, ih]; simp; omega
 intro l
 induction l with
 | nil => intro acc i o h; simp at h
 | cons p l ih =>
   intro acc i o h
   cases i with
   | zero =>
     simp at h; subst h
     rw [reachFrom, Nat.add_zero, keep _ _ _ (by simp)]
     simp only [List.getD_eq_getElem?_getD, List.getElem?_concat_length, Option.getD_some]
     congr 1
     funext e
     congr 1
     split
     · next he =>
       have := keep (p :: l) acc e he
       rw [reachFrom] at this
       simp only [List.getD_eq_getElem?_getD] at this
       rw [this]
     · next he =>
       simp only [List.take_zero, reachFrom]
   | succ i =>
     rw [reachFrom]
     have := ih (acc ++ [(edgesOf p).flatMap fun e => e :: acc.getD e []]) i o (by simpa using h)
     simp only [List.length_append, List.length_singleton] at this
     rw [show acc.length + (i + 1) = acc.length + 1 + i by omega, this]
     rfl
theorem allOK_get {ops : List Oper} {fps : List FP} {rs : List (List Nat)} : ∀ n, allOK ops fps rs n = true → ∀ i, i < n → ∃ o f, ops[i]? = some o ∧ fps[i]? = some f ∧ (∀ e, e ∈ edgesOf o → e < i) ∧ pairsOK ops fps rs o f (rs.getD i []) i = true
 | 0, _, i, hi => absurd hi (Nat.not_lt_zero _)
 | n + 1, h, i, hi => by
   simp only [allOK, Bool.and_eq_true] at h
   by_cases e : i = n
   · subst e
     cases ho : ops[i]? with
     | none => simp [ho] at h
     | some o => cases hf : fps[i]? with
       | none => simp [ho, hf] at h
       | some f =>
         simp only [ho, hf, Bool.and_eq_true, List.all_eq_true] at h
         exact ⟨o, f, rfl, rfl, fun e he => by simpa using h.1.1 e he, h.1.2⟩
   · exact allOK_get n h.2 i (by omega)
theorem pairsOK_get {ops : List Oper} {fps : List FP} {rs : List (List Nat)} {o : Oper} {f : FP} {r : List Nat} : ∀ n, pairsOK ops fps rs o f r n = true → ∀ j, j < n → j ∈ r ∨ ∀ p g, ops[j]? = some p → fps[j]? = some g → indepB ops p o g f = true
 | 0, _, j, hj => absurd hj (Nat.not_lt_zero _)
 | n + 1, h, j, hj => by
   simp only [pairsOK, Bool.and_eq_true, Bool.or_eq_true] at h
   by_cases e : j = n
   · subst e
     rcases h.1 with h1 | h1
     · rw [List.any_eq_true] at h1
       obtain ⟨x, hx, hb⟩ := h1
       have := Nat.eq_of_beq_eq_true hb
       exact .inl (this ▸ hx)
     · refine .inr fun p g hp hg => ?_
       simpa [hp, hg] using h1
   · exact pairsOK_get n h.2 j (by omega)
theorem reach_listed {ops : List Oper} {L : Nat → Prop} (hback : ∀ i o, ops[i]? = some o → ∀ e, e ∈ edgesOf o → e < i)
   (hdown : ∀ i o, ops[i]? = some o → L i → ∀ e, e ∈ edgesOf o → L e) : ∀ i o, ops[i]? = some o → (∀ e, e ∈ edgesOf o → L e) → ∀ j, j ∈ (reach ops).getD i [] → L j := by
 intro i
 induction i using Nat.strongRecOn with
 | _ i ih =>
   intro o ho hL j hj
   have := reachFrom_get ops [] i o ho
   simp only [List.length_nil, Nat.zero_add] at this
   rw [reach, this] at hj
   rw [List.mem_flatMap] at hj
   obtain ⟨e, he, hj⟩ := hj
   have hlt := hback i o ho e he
   rw [if_pos hlt] at hj
   rcases List.mem_cons.1 hj with rfl | hj
   · exact hL _ he
   · have hi : i < ops.length := (List.getElem?_eq_some_iff.1 ho).1
     have hoe : ops[e]? = some (ops[e]'(by omega)) := List.getElem?_eq_getElem _
     exact ih e hlt _ hoe (hdown e _ hoe (hL e he)) j hj
theorem wops_runs {C : Ctx} {ops : List Oper} {K : St → Prop} : ∀ (l : List Oper) (i : Nat) (σ : St) (acc : List FP), acc.length = i → (∀ j, l[j]? = ops[i + j]?) →
   wops C ops i l σ (some acc) K → ∃ fps τ, fps.take i = acc ∧ fpOK ops fps = true ∧ Runs C ops fps σ.nx (List.range' i l.length) σ τ ∧ τ.nx = σ.nx ∧ K ⟨τ.t, τ.h, τ.nx + 8 * ops.length⟩ := by
 intro l
 induction l with
 | nil =>
   intro i σ acc hi hl h
   obtain ⟨hc, hK⟩ := h
   exact ⟨acc, σ, by rw [← hi, List.take_length], hc, rfl, rfl, hK⟩
 | cons o l ih =>
   intro i σ acc hi hl h
   unfold wops at h
   rcases h with ⟨fp, σ', hD, hrest⟩ | ⟨h0, _⟩
   · have hnx : σ'.nx = σ.nx := by
       obtain ⟨_, h⟩ := hD
       rcases h with ⟨_, _, _, _, _, _, _, _, rfl⟩ | ⟨_, _, rfl⟩ <;> rfl
     obtain ⟨fps, τ, h1, h2, h3, h4, h5⟩ := ih (i + 1) σ' (acc ++ [fp]) (by simp [hi]) (fun j => by have := hl (j + 1); simp at this; rw [this]; congr 1; omega) hrest
     have hlen : i < fps.length := by
       have := congrArg List.length h1
       simp at this; omega
     have htake : fps.take i = acc := by
       have := congrArg (List.take i) h1
       rw [List.take_take, Nat.min_eq_left (by omega), ← hi, List.take_left] at this
       rw [← hi]; exact this
     have hget : fps[i]? = some fp := by
       have := congrArg (fun l => l[i]?) h1
       simp only [List.getElem?_take] at this
       rw [if_pos (by omega), List.getElem?_append_right (by omega)] at this
       simpa [hi] using this
     refine ⟨fps, τ, htake, h2, ?_, h4.trans hnx, h5⟩
     rw [List.length_cons, List.range'_succ]
     refine ⟨o, fp, σ', ?_, hget, hD, ?_⟩
     · have := hl 0; simpa using this.symm
     · rw [hnx] at h3; exact h3
   · cases h0
theorem ready_iff {ops : Array Oper} {listed : Array Bool} {i : Nat} : i ∈ Region.ready .any ops listed ↔ i < ops.size ∧ listed.getD i true = false ∧ ∃ o, ops[i]? = some o ∧ ∀ e, e ∈ edgesOf o → listed.getD e false = true := by
 unfold Region.ready
 rw [List.mem_filter, List.mem_range]
 constructor
 · rintro ⟨hi, h⟩
   simp only [Bool.and_eq_true, Bool.not_eq_true'] at h
   obtain ⟨h1, h2⟩ := h
   have ho : ops[i]? = some ops[i] := Array.getElem?_eq_getElem hi
   refine ⟨hi, h1, ops[i], ho, ?_⟩
   intro e he
   simp only [ho, Option.map_some, Option.getD_some] at h2
   rw [Array.all_eq_true'] at h2
   simp only [edgesOf, List.mem_map, List.mem_filter, Array.mem_toList_iff] at he
   obtain ⟨x, ⟨hx, hb⟩, rfl⟩ := he
   have := h2 x hx
   simpa [hb] using this
 · rintro ⟨hi, h1, o, ho, h2⟩
   refine ⟨hi, ?_⟩
   simp only [h1, Bool.not_false, Bool.true_and, ho, Option.map_some, Option.getD_some]
   rw [Array.all_eq_true']
   intro x hx
   cases hb : Region.binds .any x with
   | false => rfl
   | true =>
     have := h2 x.on (List.mem_map.2 ⟨x, List.mem_filter.2 ⟨Array.mem_toList_iff.2 hx, hb⟩, rfl⟩)
     simp [this]
theorem split_at_mem {l : List Nat} {i : Nat} (h : i ∈ l) : ∃ A B, l = A ++ i :: B ∧ i ∉ A := by
 induction l with
 | nil => cases h
 | cons x l ih =>
   by_cases e : x = i
   · exact ⟨[], l, by simp [e], by simp⟩
   · have : i ∈ l := by rcases List.mem_cons.1 h with h | h; exact absurd h.symm e; exact h
     obtain ⟨A, B, rfl, hA⟩ := ih this
     exact ⟨x :: A, B, rfl, by simp [hA, Ne.symm e]⟩
theorem wops_any {C : Ctx} {ops : Array Oper} {fps : List FP} {K : St → Prop} {Q : Go.Exit → Act → World → Prop} {M0 F : Imm} {pin : Names} {w0 : World} {nx : Nat}
   (hok : fpOK ops.toList fps = true)
   (hfin : ∀ M' ρ' σ' a' w', M0.le M' → SR C M' F pin ρ' σ' a' w' → Same w0 w' → K σ' → Q .normal a' w') :
   ∀ (fuel : Nat) (l : List Nat) (listed : Array Bool) (σ τ : St) (M : Imm) (ρ : Names) (a : Act) (w : World), l.length = fuel → l.Pairwise (· < ·) → listed.size = ops.size →
     (∀ i, i ∈ l ↔ i < ops.size ∧ listed.getD i true = false) →
     (∀ (i : Nat) (o : Oper), ops[i]? = some o → listed.getD i false = true → ∀ e, e ∈ edgesOf o → listed.getD e false = true) →
     M0.le M → Same w0 w → SR0 C M F pin ρ σ a w → σ.nx = nx → (∀ i, i ∈ l → ∀ n, nx + 8 * i ≤ n → n < nx + 8 * i + 8 → ρ n = none) → (∀ n, nx + 8 * ops.size ≤ n → ρ n = none) →
     Runs C ops.toList fps nx l σ τ → K ⟨τ.t, τ.h, nx + 8 * ops.toList.length⟩ → wpAny C.P .any ops Q fuel listed a w := by
 simp only [fpOK, Bool.and_eq_true] at hok
 obtain ⟨_, hall⟩ := hok
 have hget := allOK_get _ hall
 have hback : ∀ (i : Nat) (o : Oper), ops.toList[i]? = some o → ∀ e, e ∈ edgesOf o → e < i := by
   intro i o ho e he
   obtain ⟨o', f, h1, _, h2, _⟩ := hget i (List.getElem?_eq_some_iff.1 ho).1
   rw [ho] at h1; obtain rfl := Option.some.inj h1
   exact h2 e he
 have noready : ∀ (l : List Nat) (listed : Array Bool), l.Pairwise (· < ·) → listed.size = ops.size → (∀ i, i ∈ l ↔ i < ops.size ∧ listed.getD i true = false) → Region.ready .any ops listed = [] → l = [] := by
   intro l listed hp hsz hl hr
   cases l with
   | nil => rfl
   | cons i l =>
     exfalso
     obtain ⟨hi, hli⟩ := (hl i).1 (List.mem_cons_self ..)
     have : i ∈ Region.ready .any ops listed := by
       refine ready_iff.2 ⟨hi, hli, ops[i], Array.getElem?_eq_getElem hi, ?_⟩
       intro e he
       have hlt := hback i ops[i] (by simp [hi]) e he
       cases hb : listed.getD e true with
       | true =>
         have he' : e < listed.size := by omega
         simpa [Array.getD, he'] using hb
       | false =>
         have hm : e ∈ i :: l := (hl e).2 ⟨by omega, hb⟩
         rcases List.mem_cons.1 hm with h | h
         · omega
         · have := (List.pairwise_cons.1 hp).1 e h; omega
     rw [hr] at this; cases this
 have finish : ∀ (listed : Array Bool) (σ τ : St) (M : Imm) (ρ : Names) (a : Act) (w : World), M0.le M → Same w0 w → SR0 C M F pin ρ σ a w → σ.nx = nx → (∀ n, nx ≤ n → n < nx + 8 * ops.size → True) →
     (∀ n, nx + 8 * ops.size ≤ n → ρ n = none) → σ = τ → K ⟨τ.t, τ.h, nx + 8 * ops.toList.length⟩ → Q .normal a w := by
   intro listed σ τ M ρ a w hM hw hs hn _ hf e hK
   subst e
   refine hfin M ρ ⟨σ.t, σ.h, nx + 8 * ops.toList.length⟩ a w hM ⟨⟨hs.tm, hs.sz, hs.df, hs.hr, hs.pn, hs.pm, hs.gl⟩, ?_⟩ hw hK
   intro n hn'
   exact hf n (by simpa using hn')
 intro fuel
 induction fuel with
 | zero =>
   intro l listed σ τ M ρ a w hlen hp hsz hl hdown hM hw hs hn hf1 hf2 hr hK
   have hnil : l = [] := List.length_eq_zero_iff.1 hlen
   subst hnil
   refine ⟨?_, finish listed σ τ M ρ a w hM hw hs hn (fun _ _ _ => trivial) hf2 hr hK⟩
   cases hrd : Region.ready .any ops listed with
   | nil => rfl
   | cons i r =>
     exfalso
     have : i ∈ Region.ready .any ops listed := by rw [hrd]; exact List.mem_cons_self ..
     obtain ⟨hi, hli, _⟩ := ready_iff.1 this
     have := (hl i).2 ⟨hi, hli⟩
     cases this
 | succ fuel ih =>
   intro l listed σ τ M ρ a w hlen hp hsz hl hdown hM hw hs hn hf1 hf2 hr hK
   refine ⟨fun hrd => ?_, ?_⟩
   · have := noready l listed hp hsz hl hrd
     subst this
     simp at hlen
   · intro i hi
     obtain ⟨hlt, hli, o, ho, hpre⟩ := ready_iff.1 hi
     have him : i ∈ l := (hl i).2 ⟨hlt, hli⟩
     obtain ⟨A, B, rfl, hA⟩ := split_at_mem him
     have hoL : ops.toList[i]? = some o := by simpa using ho
     obtain ⟨o', f, h1, hfi, h3, h4⟩ := hget i (by simpa using hlt)
     rw [hoL] at h1; obtain rfl := Option.some.inj h1
     have hnot : ∀ j, j ∈ A → j ∉ (reach ops.toList).getD i [] := by
       intro j hj hjr
       have hL := reach_listed (ops := ops.toList) (L := fun k => listed.getD k false = true) hback (fun k o hk => hdown k o (by simpa using hk)) i o hoL hpre j hjr
       have := ((hl j).1 (List.mem_append_left _ hj)).2
       have hjs : j < listed.size := by rw [hsz]; exact ((hl j).1 (List.mem_append_left _ hj)).1
       simp [Array.getD, hjs] at this hL
       rw [this] at hL; cases hL
     have hlt2 : ∀ j, j ∈ A → j < i := by
       intro j hj
       exact (List.pairwise_append.1 hp).2.2 j hj i (List.mem_cons_self ..)
     have hfront := Runs_front (C := C) (nx := nx) hoL hfi A B σ τ (fun j hj p g hp2 hg => (pairsOK_get _ h4 j (hlt2 j hj)).resolve_left (hnot j hj) p g hp2 hg) hr
     obtain ⟨o2, f2, σ', k1, k2, hD, hrest⟩ := hfront
     rw [hoL] at k1; obtain rfl := Option.some.inj k1
     rw [hfi] at k2; obtain rfl := Option.some.inj k2
     have hl' : (A ++ B).length = fuel := by simp at hlen ⊢; omega
     have hp' : (A ++ B).Pairwise (· < ·) := by
       rw [List.pairwise_append] at hp ⊢
       refine ⟨hp.1, (List.pairwise_cons.1 hp.2.1).2, fun x hx y hy => hp.2.2 x hx y (List.mem_cons_of_mem _ hy)⟩
     have hiB : i ∉ B := by
       intro hb
       have := (List.pairwise_cons.1 (List.pairwise_append.1 hp).2.1).1 i hb
       omega
     have hmem : ∀ j, j ∈ A ++ B ↔ j < ops.size ∧ (listed.setIfInBounds i true).getD j true = false := by
       intro j
       by_cases e : j = i
       · subst e
         constructor
         · intro h; rcases List.mem_append.1 h with h | h
           · exact absurd h hA
           · exact absurd h hiB
         · rintro ⟨_, h⟩; simp [Array.getD, hsz, hlt] at h
       · have : (listed.setIfInBounds i true).getD j true = listed.getD j true := by
           rw [Array.getD_eq_getD_getElem?, Array.getD_eq_getD_getElem?, Array.getElem?_setIfInBounds_ne (Ne.symm e)]
         rw [this, ← hl j]
         simp [e]
     have hdown' : ∀ (k : Nat) (p : Oper), ops[k]? = some p → (listed.setIfInBounds i true).getD k false = true → ∀ e, e ∈ edgesOf p → (listed.setIfInBounds i true).getD e false = true := by
       have keep : ∀ e, listed.getD e false = true → (listed.setIfInBounds i true).getD e false = true := by
         intro e he
         by_cases h : e = i
         · subst h; simp [Array.getD, hsz, hlt]
         · rw [Array.getD_eq_getD_getElem?, Array.getElem?_setIfInBounds_ne (Ne.symm h), ← Array.getD_eq_getD_getElem?]; exact he
       intro k p hk hlk e he
       by_cases h : k = i
       · subst h
         rw [ho] at hk; obtain rfl := Option.some.inj hk
         exact keep e (hpre e he)
       · refine keep e (hdown k p hk ?_ e he)
         rw [Array.getD_eq_getD_getElem?, Array.getElem?_setIfInBounds_ne (Ne.symm h), ← Array.getD_eq_getD_getElem?] at hlk
         exact hlk
     unfold wpOp
     rw [ho]
     dsimp only
     obtain ⟨hd, hD⟩ := hD
     rcases hD with ⟨hg, bs, u, wr, hokk, hbs, _, _, rfl⟩ | ⟨hg, _, rfl⟩
     · rw [wanted_on hs hg]
       simp only [if_true]
       refine .inl (hokk M F ρ a σ.h w (fun x _ => opv_rel hs x) hs.gl hs.hr hbs (fun n g1 g2 => hf1 i him n g1 g2) _ _ ?_)
       rintro M' ρ' u1 wr1 u' w' g1 g2 g3 ⟨rfl, rfl⟩ g5 g6 g7
       refine ih (A ++ B) _ _ τ M' ρ' _ w' hl' hp' (by simp [hsz]) hmem hdown' (Imm.le_trans hM g1) (hw.trans g7) (hs.app hd g1 g2 g5 g6) hn ?_ ?_ hrest hK
       · intro j hj n m1 m2
         have hji : j ≠ i := by rintro rfl; rcases List.mem_append.1 hj with h | h; exact hA h; exact hiB h
         rw [g3 n (by omega)]
         refine hf1 j ?_ n m1 m2
         rcases List.mem_append.1 hj with h | h
         · exact List.mem_append_left _ h
         · exact List.mem_append_right _ (List.mem_cons_of_mem _ h)
       · intro n m1
         rw [g3 n (by omega)]; exact hf2 n m1
     · rw [wanted_off hs hg]
       simp only [Bool.false_eq_true, if_false]
       refine ih (A ++ B) _ _ τ M ρ _ w hl' hp' (by simp [hsz]) hmem hdown' hM hw (hs.app (wr := []) hd (Imm.le_refl _) (Names.le_refl _) VR.skip hs.hr) hn ?_ hf2 hrest hK
       intro j hj n m1 m2
       refine hf1 j ?_ n m1 m2
       rcases List.mem_append.1 hj with h | h
       · exact List.mem_append_left _ h
       · exact List.mem_append_right _ (List.mem_cons_of_mem _ h)
theorem W_region_draw {C : Ctx} {id : Nat} {ops : Array Oper} {Q : Exit → St → Prop} {σ : St} (hm : C.P.follows .mixedOrders = true)
   (h : wops C ops.toList 0 ops.toList σ (some []) (fun σ' => Q .normal σ')) : W C (.region id ops true) Q σ := by
 intro M F pin ρ a w hs
 obtain ⟨fps, τ, _, h2, h3, h4, h5⟩ := wops_runs (K := fun σ' => Q .normal σ') ops.toList 0 σ [] rfl (fun j => by simp) h
 refine wp_region_any hm (wops_any (K := fun σ' => Q .normal σ') (M0 := M) (F := F) (pin := pin) (w0 := w) (nx := σ.nx) h2 ?_ ops.size (List.range' 0 ops.toList.length) (Array.replicate ops.size false) σ τ M ρ a _ (by simp) ?_ (by simp) ?_ ?_ (Imm.le_refl _) ⟨rfl, rfl, rfl, Nat.le_refl _⟩
   ⟨hs.tm, hs.sz, hs.df, hs.hr.drawn _, hs.pn, hs.pm, hs.gl⟩ rfl (fun i _ n g1 _ => hs.fr n (by omega)) (fun n g1 => hs.fr n (by omega)) h3 (by rw [← h4]; exact h5))
 · intro M' ρ' σ' a' w' k1 k2 k3 k4
   exact ⟨M', ρ', σ', k1, k2, k3, k4⟩
 · exact List.pairwise_lt_range'
 · intro i
   rw [List.mem_range']
   simp only [Array.length_toList]
   constructor
   · rintro ⟨j, hj, rfl⟩
     simp [Array.getD, hj]
   · rintro ⟨hi, _⟩
     exact ⟨i, hi, by omega⟩
 · intro i o ho hl
   have hi : i < ops.size := (Array.getElem?_eq_some_iff.1 ho).1
   simp [Array.getD, hi] at hl
end Go.Proofs.YtpdojmebloekgaaDoor.Nice
namespace Go.Proofs.YtpdojmebloekgaaDoor.Nice
open Go
set_option linter.unusedVariables false
def okOut (m : Nat) (r : SV) (hout : List (Option Blk)) : Bool := Nat.ble m hout.length && (Nat.ble hout.length (m + 8) && (r.under hout.length && hUnder hout.length hout))
def Spec (P : Program) (G : Nat → SV) (f : FuncId) (args : List SV) (hin : List Blk) (post : SV → List (Option Blk) → Prop) : Prop :=
 ∀ M F ρ (vs : Array Value) w, (∀ g ρ, VR M ρ (G g) (.pointer (some ⟨g, 0, none⟩))) → HR M F ρ (hOf (hin.map some)) w → vs.size = args.length →
   (∀ (i : Nat) (x : SV), args[i]? = some x → ∃ u, vs[i]? = some u ∧ VR M ρ x u) → (∀ n, hin.length ≤ n → ρ n = none) →
   Calls P f vs w (fun e w' => ∃ M' ρ' r hout u, e = .returned u ∧ M.le M' ∧ ρ.le ρ' ∧ VR M' ρ' r u ∧ HR M' F ρ' (hOf hout) w' ∧ okOut hin.length r hout = true ∧ Same w w' ∧ post r hout)
theorem Spec.mono {P : Program} {G : Nat → SV} {f : FuncId} {args : List SV} {hin : List Blk} {post post' : SV → List (Option Blk) → Prop} (h : Spec P G f args hin post) (hp : ∀ r ho, post r ho → post' r ho) : Spec P G f args hin post' :=
 fun M F ρ vs w h1 h2 h3 h4 h5 => (h M F ρ vs w h1 h2 h3 h4 h5).mono fun e w' ⟨M', ρ', r, ho, u, k1, k2, k3, k4, k5, k6, k7, k8⟩ => ⟨M', ρ', r, ho, u, k1, k2, k3, k4, k5, k6, k7, hp _ _ k8⟩
def argT : Nat → List SV → List (Nat × SV)
 | _, [] => []
 | k, x :: r => (k, x) :: argT (k + 1) r
theorem tOf_argT : ∀ (args : List SV) (k n : Nat), tOf (argT k args) n = if k ≤ n then args.getD (n - k) .any else .any
 | [], k, n => by simp [argT, tOf]
 | x :: r, k, n => by
   simp only [argT, tOf]
   cases e : Nat.beq n k with
   | true => have := Nat.eq_of_beq_eq_true e; subst this; simp
   | false =>
     have hne : n ≠ k := fun h => by subst h; simp at e
     simp only [cond_false]
     rw [tOf_argT r (k + 1) n]
     by_cases h : k + 1 ≤ n
     · rw [if_pos h, if_pos (by omega), show n - k = (n - (k + 1)) + 1 by omega]; simp
     · rw [if_neg h, if_neg (by omega)]
def RetIs (C : Ctx) (fn : Func) (σ : St) (r : SV) : Prop :=
 ∀ M F pin ρ a w, SR C M F pin ρ σ a w → ∃ u, (results fn a.tmps).run C.P w = .ok u w ∧ VR M ρ r u
theorem ret1 {C : Ctx} {fn : Func} {σ : St} {s : Tmp} (h : fn.results = #[.tmp s]) : RetIs C fn σ (σ.t s) :=
 fun M F pin ρ a w hs => ⟨_, results_tmp h _ _ _, hs.tm s⟩
theorem ret0 {C : Ctx} {fn : Func} {σ : St} (h : fn.results = #[]) : RetIs C fn σ (.tup []) :=
 fun M F pin ρ a w hs => ⟨_, results_none h _ _ _, .tup [] #[] (fun _ => undef) rfl (fun i hi => by simp at hi) (fun i x hx => by simp at hx)⟩
theorem VR.tupOf {M : Imm} {ρ : Names} (xs : List SV) (vs : Array Value) (hs : vs.size = xs.length) (h : ∀ (i : Nat) (x : SV), xs[i]? = some x → ∃ u, vs[i]? = some u ∧ VR M ρ x u) : VR M ρ (.tup xs) (.tuple vs) := by
 refine .tup xs vs (fun i => vs.getD i undef) hs (fun i hi => ?_) fun i x hx => ?_
 · have : i < vs.size := by omega
   simp [Array.getD, this]
 · obtain ⟨u, hu, hr⟩ := h i x hx
   have hi := (Array.getElem?_eq_some_iff.1 hu).1
   have : vs.getD i undef = u := by
     rw [Array.getD_eq_getD_getElem?, hu]; rfl
   rw [this]; exact hr
theorem VR.aggOf {M : Imm} {ρ : Names} (xs : List SV) (vs : Array Value) (hs : vs.size = xs.length) (h : ∀ (i : Nat) (x : SV), xs[i]? = some x → ∃ u, vs[i]? = some u ∧ VR M ρ x u) : VR M ρ (.agg xs) (.agg vs) := by
 refine .agg xs vs (fun i => vs.getD i undef) hs (fun i hi => ?_) fun i x hx => ?_
 · have : i < vs.size := by omega
   simp [Array.getD, this]
 · obtain ⟨u, hu, hr⟩ := h i x hx
   have : vs.getD i undef = u := by
     rw [Array.getD_eq_getD_getElem?, hu]; rfl
   rw [this]; exact hr
theorem ret2 {C : Ctx} {fn : Func} {σ : St} {s t : Tmp} (h : fn.results = #[.tmp s, .tmp t]) : RetIs C fn σ (.tup [σ.t s, σ.t t]) :=
 fun M F pin ρ a w hs => ⟨_, results_tmp2 h _ _ _, .tupOf _ _ rfl fun i x hx => by
   match i, hx with
   | 0, hx => simp at hx; subst hx; exact ⟨_, rfl, hs.tm s⟩
   | 1, hx => simp at hx; subst hx; exact ⟨_, rfl, hs.tm t⟩⟩
theorem ret3 {C : Ctx} {fn : Func} {σ : St} {s t r : Tmp} (h : fn.results = #[.tmp s, .tmp t, .tmp r]) : RetIs C fn σ (.tup [σ.t s, σ.t t, σ.t r]) :=
 fun M F pin ρ a w hs => ⟨.tuple #[a.tmps.getD s undef, a.tmps.getD t undef, a.tmps.getD r undef], by simp [results, h], .tupOf _ _ rfl fun i x hx => by
   match i, hx with
   | 0, hx => simp at hx; subst hx; exact ⟨_, rfl, hs.tm s⟩
   | 1, hx => simp at hx; subst hx; exact ⟨_, rfl, hs.tm t⟩
   | 2, hx => simp at hx; subst hx; exact ⟨_, rfl, hs.tm r⟩⟩
def outQ (C : Ctx) (fn : Func) (post : SV → List (Option Blk) → Prop) : Exit → St → Prop
 | .ret, σ | .normal, σ => ∃ π r' r hout, RetIs C fn σ r' ∧ r' = ren π r ∧ okOut C.m r hout = true ∧ Sub C π σ [] hout ∧ post r hout
 | _, _ => False
theorem fn_intro {P : Program} {G : Nat → SV} {f : FuncId} {fn : Func} {c : Code} {args : List SV} {hin : List Blk} {post : SV → List (Option Blk) → Prop} (hf : P.funcs[f]? = some fn) (hb : fn.body = some c)
   (hn : Nat.ble args.length fn.ntmps = true)
   (h : W ⟨P, fn.ntmps, hin.length, G⟩ c (outQ ⟨P, fn.ntmps, hin.length, G⟩ fn post) (stOf (argT 0 args) (hin.map some))) : Spec P G f args hin post := by
 intro M F ρ vs w hG hH hsz hargs hfr
 have hn' := Nat.le_of_ble_eq_true hn
 refine calls_of_wp hf hb (Code.wp_mono ?_ (h M F ρ ρ { tmps := vs ++ Array.replicate (fn.ntmps - vs.size) undef, defers := [] } w ⟨⟨?_, ?_, rfl, hH, Names.le_refl _, ?_, hG⟩, ?_⟩))
 · rintro e a' w' ⟨M', ρ', σ', h1, h2, h3, h4⟩
   have fin : (∃ π r' r hout, RetIs ⟨P, fn.ntmps, hin.length, G⟩ fn σ' r' ∧ r' = ren π r ∧ okOut hin.length r hout = true ∧ Sub ⟨P, fn.ntmps, hin.length, G⟩ π σ' [] hout ∧ post r hout) →
       a'.defers = [] ∧ ∃ v, (results fn a'.tmps).run P w' = .ok v w' ∧ (∃ M' ρ' r hout u, Ending.returned v = .returned u ∧ M.le M' ∧ ρ.le ρ' ∧ VR M' ρ' r u ∧ HR M' F ρ' (hOf hout) w' ∧ okOut hin.length r hout = true ∧ Same w w' ∧ post r hout) := by
     rintro ⟨π, r', r, hout, hr, rfl, hu, hsub, hp⟩
     obtain ⟨u, hru, hv⟩ := hr M' F ρ ρ' a' w' h2
     have hrel := hsub.rel h2.toSR0
     have hlen : π.length = hout.length := by
       have := hsub.ok
       simp only [Bool.and_eq_true] at this
       exact Nat.eq_of_beq_eq_true this.1
     have hu' : r.under hout.length = true := by
       simp only [okOut, Bool.and_eq_true] at hu
       exact hu.2.2.1
     exact ⟨h2.df, u, hru, M', back π ρ', r, hout, u, rfl, h1, hrel.pn, hv.back r rfl (by rw [hlen]; exact hu'), hrel.hr, hu, h3, hp⟩
   cases e with
   | normal => exact fin h4
   | ret => exact fin h4
   | _ => exact h4.elim
 · intro k
   show VR M ρ (tOf (argT 0 args) k) _
   rw [tOf_argT]
   simp only [Nat.zero_le, if_true, Nat.sub_zero]
   rw [List.getD_eq_getElem?_getD]
   cases e : args[k]? with
   | none => exact .any _
   | some x =>
     obtain ⟨u, hu, hr⟩ := hargs k x e
     have hk := (Array.getElem?_eq_some_iff.1 hu).1
     have : (vs ++ Array.replicate (fn.ntmps - vs.size) undef).getD k undef = u := by
       rw [Array.getD_eq_getD_getElem?, Array.getElem?_append_left hk, hu]; rfl
     rw [this]; exact hr
 · simp; omega
 · intro n x hx
   rcases Nat.lt_or_ge n hin.length with h | h
   · exact h
   · rw [hfr n h] at hx; cases hx
 · intro n hn
   exact hfr n (by simpa [stOf] using hn)
theorem VR.fwd {M : Imm} {ρ ρ' : Names} {π : List Nat} {n : Nat} (hπ : ∀ i, i < n → ρ' (π.getD i 0) = ρ i) {x : SV} {v : Value} (h : VR M ρ x v) : x.under n = true → VR M ρ' (ren π x) v := by
 have key : ∀ (m : Nat) (z : Own), Nat.blt m n = true → ρ m = some z → ρ' (π.getD m 0) = some z := by
   intro m z hm hz
   rw [hπ m (by simpa using hm)]; exact hz
 induction h with
 | any v => intro _; exact .any v
 | d z v h => intro _; exact .d z v h
 | vp k len f i c b o cur T fz g hb hg hr => intro _; exact .vp k len f i c b o cur T fz g hb hg hr
 | ptr m i c z h => intro hu; exact .ptr _ i c z (key m z (by simpa [SV.under] using hu) h)
 | sl m o len z h hl hR h0 => intro hu; exact .sl _ o len z (key m z (by simpa [SV.under] using hu) h) hl hR h0
 | sl0 m o z h hR a => intro hu; exact .sl0 _ _ z (key m z (by simpa [SV.under] using hu) h) hR a
 | cs m c len z cap h hc => intro hu; exact .cs _ c len z cap (key m z (by simpa [SV.under] using hu) h) hc
 | opY m z h => intro hu; exact .opY _ z (key m z (by simpa [SV.under] using hu) h)
 | opN m => intro hu; exact .opN _
 | map m z h => intro hu; exact .map _ z (key m z (by simpa [SV.under] using hu) h)
 | fn f caps vs g hs hg hr ih =>
   intro hu
   have hu : underL n caps = true := by simpa [SV.under] using hu
   refine .fn f _ vs g (by rw [renL_length]; exact hs) (by rw [renL_length]; exact hg) fun i y hy => ?_
   rw [renL_get] at hy
   cases e : caps[i]? with
   | none => rw [e] at hy; cases hy
   | some z => rw [e] at hy; cases hy; exact ih i z e (underL_get n caps hu i z e)
 | agg xs vs g hs hg hr ih =>
   intro hu
   have hu : underL n xs = true := by simpa [SV.under] using hu
   refine .agg _ vs g (by rw [renL_length]; exact hs) (by rw [renL_length]; exact hg) fun i y hy => ?_
   rw [renL_get] at hy
   cases e : xs[i]? with
   | none => rw [e] at hy; cases hy
   | some z => rw [e] at hy; cases hy; exact ih i z e (underL_get n xs hu i z e)
 | tup xs vs g hs hg hr ih =>
   intro hu
   have hu : underL n xs = true := by simpa [SV.under] using hu
   refine .tup _ vs g (by rw [renL_length]; exact hs) (by rw [renL_length]; exact hg) fun i y hy => ?_
   rw [renL_get] at hy
   cases e : xs[i]? with
   | none => rw [e] at hy; cases hy
   | some z => rw [e] at hy; cases hy; exact ih i z e (underL_get n xs hu i z e)
 | iface t z v h ih => intro hu; exact .iface t _ v (ih (by simpa [SV.under] using hu))
theorem BR.fwd {M : Imm} {ρ ρ' : Names} {π : List Nat} {n : Nat} (hπ : ∀ i, i < n → ρ' (π.getD i 0) = ρ i) {z : Own} {b : Blk} {o : Obj} (h : BR M ρ z b o) (hu : b.under n = true) : BR M ρ' z (renB π b) o := by
 cases b with
 | cells ty k xs => cases o with
   | cells cur T fz =>
     obtain ⟨h1, h2, h3, h4, h5, h6⟩ := h
     refine ⟨h1, h2, h3, h4, by rw [renL_length]; exact h5, fun j s hs => ?_⟩
     rw [renL_get] at hs
     cases e : xs[j]? with
     | none => rw [e] at hs; cases hs
     | some y =>
       rw [e] at hs; cases hs
       obtain ⟨v, hv, hr⟩ := h6 j y e
       exact ⟨v, hv, hr.fwd hπ (underL_get n xs hu j y e)⟩
   | _ => exact h.elim
 | rows ty k len f => cases o <;> exact h
 | map es => cases o <;> exact h
 | fam S es => cases o with
   | map ents cl =>
     obtain ⟨h0, h1, h2, h3⟩ := h
     refine ⟨h0, h1, h2, fun p hp => ?_⟩
     obtain ⟨q, hq, rfl⟩ := renO_mem hp
     obtain ⟨y, hy, hr⟩ := h3 q hq
     exact ⟨y, hy, hr.fwd hπ ((List.all_eq_true.1 hu) q hq)⟩
   | cells cur T fz =>
     refine ⟨h.1, fun p hp => ?_⟩
     obtain ⟨q, hq, rfl⟩ := renO_mem hp
     obtain ⟨y, hy, hr⟩ := h.2 q hq
     exact ⟨y, hy, hr.fwd hπ ((List.all_eq_true.1 hu) q hq)⟩
   | _ => exact h.elim
 | iter m since seen => cases o with
   | mapIter mp s' seen' cl => exact ⟨h.1.fwd hπ hu, h.2⟩
   | _ => exact h.elim
def bsOf (π : List Nat) : List Nat → List Blk → List (Nat × Blk)
 | i :: r, b :: l => (i, renB π b) :: bsOf π r l
 | _, _ => []
def wrOf (π : List Nat) : List Nat → List (Option Blk) → List (Nat × Option Blk)
 | i :: r, b :: l => (i, b.map (renB π)) :: wrOf π r l
 | _, _ => []
def newNames (nm : Nat) : Nat → List Nat
 | 0 => []
 | n + 1 => nm :: newNames (nm + 1) n
theorem newNames_length (nm : Nat) : ∀ n, (newNames nm n).length = n := by
 intro n; induction n generalizing nm with
 | zero => rfl
 | succ n ih => simp [newNames, ih]
theorem newNames_get : ∀ (n nm i : Nat), i < n → (newNames nm n)[i]? = some (nm + i)
 | 0, nm, i, h => absurd h (Nat.not_lt_zero _)
 | n + 1, nm, 0, h => by simp [newNames]
 | n + 1, nm, i + 1, h => by simp [newNames]; rw [newNames_get n (nm + 1) i (by omega)]; congr 1; omega
theorem bsOf_get {π : List Nat} : ∀ (l : List Nat) (bs : List Blk), l.length = bs.length → ∀ (i : Nat) (b : Blk), bs[i]? = some b → ∃ j, l[i]? = some j ∧ (j, renB π b) ∈ bsOf π l bs
 | [], [], _, i, b, h => by simp at h
 | [], _ :: _, h, _, _, _ => by simp at h
 | _ :: _, [], h, _, _, _ => by simp at h
 | x :: l, c :: bs, hl, 0, b, h => by simp at h; subst h; exact ⟨x, rfl, List.mem_cons_self ..⟩
 | x :: l, c :: bs, hl, i + 1, b, h => by
   obtain ⟨j, h1, h2⟩ := bsOf_get l bs (by simpa using hl) i b (by simpa using h)
   exact ⟨j, by simpa using h1, List.mem_cons_of_mem _ h2⟩
theorem wrOf_keys {π : List Nat} : ∀ (l : List Nat) (bs : List (Option Blk)) (p : Nat × Option Blk), p ∈ wrOf π l bs → ∃ (i : Nat) (b : Option Blk), l[i]? = some p.1 ∧ bs[i]? = some b ∧ p.2 = b.map (renB π)
 | [], _, p, h => by simp [wrOf] at h
 | _ :: _, [], p, h => by simp [wrOf] at h
 | x :: l, c :: bs, p, h => by
   simp only [wrOf] at h
   rcases List.mem_cons.1 h with rfl | h
   · exact ⟨0, c, rfl, rfl, rfl⟩
   · obtain ⟨i, b, h1, h2, h3⟩ := wrOf_keys l bs p h
     exact ⟨i + 1, b, by simpa using h1, by simpa using h2, h3⟩
theorem wrH_wrOf {π : List Nat} : ∀ (l : List Nat) (bs : List (Option Blk)) (h : Heap), l.length = bs.length → (∀ i j n : Nat, l[i]? = some n → l[j]? = some n → i = j) →
   (∀ (i n : Nat) (b : Option Blk), l[i]? = some n → bs[i]? = some b → wrH h (wrOf π l bs) n = b.map (renB π)) ∧ (∀ n, n ∉ l → wrH h (wrOf π l bs) n = h n)
 | [], [], h, _, _ => ⟨fun i n b hi => by simp at hi, fun n _ => rfl⟩
 | [], _ :: _, _, hl, _ => by simp at hl
 | _ :: _, [], _, hl, _ => by simp at hl
 | x :: l, c :: bs, h, hl, hnd => by
   obtain ⟨h1, h2⟩ := wrH_wrOf (π := π) l bs (upd h x (c.map (renB π))) (by simpa using hl) (fun i j n hi hj => by
     have := hnd (i + 1) (j + 1) n (by simpa using hi) (by simpa using hj); omega)
   constructor
   · intro i n b hi hb
     cases i with
     | zero =>
       simp at hi hb; subst hi; subst hb
       simp only [wrOf, wrH]
       rw [h2 x, upd_same]
       intro hm
       obtain ⟨j, hj⟩ := List.mem_iff_getElem?.1 hm
       have := hnd 0 (j + 1) x rfl (by simpa using hj)
       omega
     | succ i => simp only [wrOf, wrH]; exact h1 i n b (by simpa using hi) (by simpa using hb)
   · intro n hn
     simp only [wrOf, wrH]
     rw [h2 n (fun e => hn (List.mem_cons_of_mem _ e)), upd_other]
     rintro rfl; exact hn (List.mem_cons_self ..)
theorem ghost_renB (π : List Nat) (b : Blk) : (renB π b).ghost = b.ghost := by
 cases b <;> rfl
def Passed (ρ : Names) (h : Heap) (π : List Nat) (b : Nat) : Prop := (∃ (i n : Nat) (x : Own), π[i]? = some n ∧ ρ n = some x ∧ 0 < x.R ∧ x.b = b) ∨ ∃ (i n : Nat) (S : List Nat) (es : Fam), π[i]? = some n ∧ h n = some (.fam S es) ∧ b ∈ S
noncomputable def frameOf (M F : Imm) (ρ : Names) (h : Heap) (π : List Nat) (w : World) : Imm := fun b =>
 open Classical in
 if F b ≠ none then F b else if M b = none ∧ ¬ Passed ρ h π b then w.heap[b]? else none
theorem call_world {P : Program} {G : Nat → SV} {f : FuncId} {args : List SV} {hin : List Blk} {post : SV → List (Option Blk) → Prop} (hF : Spec P G f args hin post)
   {M F : Imm} {ρ : Names} {h : Heap} {w : World} {π : List Nat} {nm : Nat} {vs : Array Value} (hG : ∀ g ρ, VR M ρ (G g) (.pointer (some ⟨g, 0, none⟩)))
   (hH : HR M F ρ h w) (hπ : π.length = hin.length) (hnd : nodupB π = true) (hbs : ∀ p, p ∈ bsOf π π hin → h p.1 = some p.2) (hu : hUnder hin.length (hin.map some) = true)
   (hua : underL hin.length args = true) (hsz : vs.size = args.length) (hargs : ∀ (i : Nat) (x : SV), args[i]? = some x → ∃ u, vs[i]? = some u ∧ VR M ρ (ren π x) u) (hfr : ∀ n, nm ≤ n → n < nm + 8 → ρ n = none) :
   Calls P f vs w (fun e w' => ∃ M' ρ' r hout u π2, e = .returned u ∧ π2 = π ++ newNames nm (hout.length - hin.length) ∧ M.le M' ∧ ρ.le ρ' ∧ (∀ n, n < nm ∨ nm + 8 ≤ n → ρ' n = ρ n) ∧ VR M' ρ' (ren π2 r) u ∧
     HR M' F ρ' (wrH h (wrOf π2 π2 hout)) w' ∧ Same w w' ∧ post r hout) := by
 have hlive : ∀ (i : Nat) (b : Blk), hin[i]? = some b → ∃ n, π[i]? = some n ∧ h n = some (renB π b) := by
   intro i b hb
   obtain ⟨n, hn, hm⟩ := bsOf_get (π := π) π hin hπ i b hb
   exact ⟨n, hn, hbs _ hm⟩
 have hsome : ∀ (i n : Nat), π[i]? = some n → ∃ b, hin[i]? = some b ∧ h n = some (renB π b) ∧ ∃ x, ρ n = some x := by
   intro i n hn
   have hi : i < hin.length := by rw [← hπ]; exact (List.getElem?_eq_some_iff.1 hn).1
   obtain ⟨n', hn', hb⟩ := hlive i _ (List.getElem?_eq_getElem hi)
   rw [hn] at hn'; obtain rfl := Option.some.inj hn'
   obtain ⟨x, hx, _⟩ := hH.live n _ hb
   exact ⟨_, List.getElem?_eq_getElem hi, hb, x, hx⟩
 have hundb : ∀ (i : Nat) (b : Blk), hin[i]? = some b → b.under hin.length = true := by
   have : ∀ (l : List Blk) (n : Nat), hUnder n (l.map some) = true → ∀ (i : Nat) (b : Blk), l[i]? = some b → b.under n = true := by
     intro l n
     induction l with
     | nil => intro _ i b hb; simp at hb
     | cons c l ih =>
       intro hl i b hb
       simp [hUnder] at hl
       cases i with
       | zero => simp at hb; subst hb; exact hl.1
       | succ i => exact ih hl.2 i b (by simpa using hb)
   exact this hin _ hu
 -- the callee's view
 have hHc : HR M (frameOf M F ρ h π w) (back π ρ) (hOf (hin.map some)) w := by
   have hFc : ∀ b, F b = none → Passed ρ h π b → frameOf M F ρ h π w b = none := by
     intro b hb hex
     unfold frameOf
     rw [if_neg (by simp [hb]), if_neg (fun h => h.2 hex)]
   refine ⟨hH.imm, ?_, ?_, ?_, ?_, ?_⟩
   rotate_right
   · intro i S es hi
     have hi' : hin[i]? = some (.fam S es) := by
       have := hOf_some hi
       simp at this; exact this
     obtain ⟨n, hn, hb⟩ := hlive i _ hi'
     obtain ⟨x, hx, g0, g1, g2, g3, g4⟩ := hH.fam n S _ hb
     refine ⟨x, by simp [back, hn, hx], g0, fun b hbS => ⟨(g1 b hbS).1, hFc b (g1 b hbS).2.1 (.inr ⟨i, n, S, _, hn, hb, hbS⟩), (g1 b hbS).2.2⟩, fun p y hp hy h0y => ?_, fun p S' es' hpi hp => ?_, FR.ren.1 g4⟩
     · obtain ⟨bp, hbp⟩ := Option.ne_none_iff_exists'.1 hp
       obtain ⟨np, hnp, hhp⟩ := hlive p bp (by have := hOf_some hbp; simp at this; exact this)
       simp only [back, hnp, Option.bind_some] at hy
       exact g2 np y (by rw [hhp]; simp) hy h0y
     · obtain ⟨np, hnp, hhp⟩ := hlive p _ (by have := hOf_some hp; simp at this; exact this)
       refine g3 np S' _ (fun e => hpi ?_) hhp
       subst e
       exact nodupB_inj hnd p i np hnp hn
   · intro b o hb
     unfold frameOf at hb
     split at hb
     · exact hH.frm b o hb
     · split at hb
       · exact hb
       · cases hb
   · intro b o hb
     unfold frameOf at hb
     split at hb
     · exact hH.dis b o hb
     · split at hb
       · next h1 => exact h1.1
       · cases hb
   · intro i b hi
     have hi' : hin[i]? = some b := by
       have := hOf_some hi
       simp at this; exact this
     obtain ⟨n, hn, hb⟩ := hlive i b hi'
     obtain ⟨x, hx, hr⟩ := hH.live n _ hb
     refine ⟨x, by simp [back, hn, hx], ?_⟩
     rcases hr with ⟨h0, hg⟩ | ⟨h0, h1, h2, o, h3, h4⟩
     · exact .inl ⟨h0, by rw [ghost_renB] at *; exact hg⟩
     · exact .inr ⟨h0, h1, hFc _ h2 (.inl ⟨i, n, x, hn, hx, h0, rfl⟩), o, h3, h4.back (by rw [hπ]; exact hundb i b hi')⟩
   · intro p q x y hp hq hx hy h0x h0y hb
     obtain ⟨bp, hbp⟩ := Option.ne_none_iff_exists'.1 hp
     obtain ⟨bq, hbq⟩ := Option.ne_none_iff_exists'.1 hq
     obtain ⟨np, hnp, hhp⟩ := hlive p bp (by have := hOf_some hbp; simp at this; exact this)
     obtain ⟨nq, hnq, hhq⟩ := hlive q bq (by have := hOf_some hbq; simp at this; exact this)
     simp only [back, hnp, hnq, Option.bind_some] at hx hy
     have := hH.sep np nq x y (by rw [hhp]; simp) (by rw [hhq]; simp) hx hy h0x h0y hb
     subst this
     exact nodupB_inj hnd p q np hnp hnq
 refine (hF M _ (back π ρ) vs w hG hHc hsz ?_ ?_).mono ?_
 · intro i x hx
   obtain ⟨u, hu', hr⟩ := hargs i x hx
   exact ⟨u, hu', hr.back x rfl (by rw [hπ]; exact underL_get _ args hua i x hx)⟩
 · intro n hn
   have : π[n]? = none := by rw [List.getElem?_eq_none_iff, hπ]; exact hn
   simp [back, this]
 rintro e w' ⟨M', ρ', r, hout, u, rfl, hM, hρ, hv, hH', hok, hsame, hp⟩
 simp only [okOut, Bool.and_eq_true] at hok
 obtain ⟨hle, hle8, hur, huo⟩ := hok
 have hle := Nat.le_of_ble_eq_true hle
 have hle8 := Nat.le_of_ble_eq_true hle8
 obtain ⟨k, hk⟩ : ∃ k, hout.length = hin.length + k := ⟨hout.length - hin.length, by omega⟩
 have hk8 : k ≤ 8 := by omega
 have hks : hout.length - hin.length = k := by omega
 generalize hπ2 : π ++ newNames nm (hout.length - hin.length) = π2
 rw [hks] at hπ2
 have hlen2 : π2.length = hout.length := by rw [← hπ2, List.length_append, newNames_length, hπ, hk]
 have get1 : ∀ i, i < hin.length → π2[i]? = π[i]? := fun i hi => by rw [← hπ2, List.getElem?_append_left (by omega)]
 have get2 : ∀ j, j < k → π2[hin.length + j]? = some (nm + j) := fun j hj => by
   rw [← hπ2, List.getElem?_append_right (by omega), show hin.length + j - π.length = j by omega, newNames_get k nm j hj]
 -- the caller's new names
 let ρ2 : Names := fun n => if nm ≤ n ∧ n < nm + k then ρ' (hin.length + (n - nm)) else ρ n
 have hρ2 : ∀ n, ρ2 n = if nm ≤ n ∧ n < nm + k then ρ' (hin.length + (n - nm)) else ρ n := fun n => rfl
 have hle2 : ρ.le ρ2 := by
   intro n x hx
   rw [hρ2, if_neg]
   · exact hx
   · rintro ⟨h1, h2⟩; rw [hfr n h1 (by omega)] at hx; cases hx
 have hsee : ∀ (i n : Nat), π2[i]? = some n → ρ2 n = ρ' i := by
   intro i n hn
   rcases Nat.lt_or_ge i hin.length with hi | hi
   · rw [get1 i hi] at hn
     obtain ⟨b, _, _, x, hx⟩ := hsome i n hn
     rw [hle2 n x hx, hρ i x (by simp [back, hn, hx])]
   · have hi2 : i < hout.length := by rw [← hlen2]; exact (List.getElem?_eq_some_iff.1 hn).1
     obtain ⟨j, rfl⟩ : ∃ j, i = hin.length + j := ⟨i - hin.length, by omega⟩
     rw [get2 j (by omega)] at hn
     obtain rfl := Option.some.inj hn
     rw [hρ2, if_pos ⟨by omega, by omega⟩]
     congr 1; omega
 have hsee' : ∀ i, i < hout.length → ρ2 (π2.getD i 0) = ρ' i := by
   intro i hi
   refine hsee i _ ?_
   rw [List.getD_eq_getElem?_getD, List.getElem?_eq_getElem (by omega)]; rfl
 have hnd2 : ∀ i j n : Nat, π2[i]? = some n → π2[j]? = some n → i = j := by
   have old : ∀ (i n : Nat), i < hin.length → π2[i]? = some n → ¬ (nm ≤ n ∧ n < nm + k) := by
     intro i n hi hn ⟨h1, h2⟩
     rw [get1 i hi] at hn
     obtain ⟨_, _, _, x, hx⟩ := hsome i n hn
     rw [hfr n h1 (by omega)] at hx; cases hx
   have new : ∀ (i n : Nat), hin.length ≤ i → π2[i]? = some n → n = nm + (i - hin.length) ∧ i - hin.length < k := by
     intro i n hi hn
     have hi2 : i < hout.length := by rw [← hlen2]; exact (List.getElem?_eq_some_iff.1 hn).1
     obtain ⟨j, rfl⟩ : ∃ j, i = hin.length + j := ⟨i - hin.length, by omega⟩
     rw [get2 j (by omega)] at hn
     obtain rfl := Option.some.inj hn
     exact ⟨by omega, by omega⟩
   intro i j n hi hj
   rcases Nat.lt_or_ge i hin.length with h1 | h1 <;> rcases Nat.lt_or_ge j hin.length with h2 | h2
   · rw [get1 i h1] at hi; rw [get1 j h2] at hj; exact nodupB_inj hnd i j n hi hj
   · have := new j n h2 hj; exact absurd ⟨by omega, by omega⟩ (old i n h1 hi)
   · have := new i n h1 hi; exact absurd ⟨by omega, by omega⟩ (old j n h2 hj)
   · have a := new i n h1 hi; have b := new j n h2 hj; omega
 obtain ⟨hwr1, hwr2⟩ := wrH_wrOf (π := π2) π2 hout h hlen2 hnd2
 have hundo : ∀ (i : Nat) (b : Blk), hout[i]? = some (some b) → b.under hout.length = true := by
   have : ∀ (l : List (Option Blk)) (n : Nat), hUnder n l = true → ∀ (i : Nat) (b : Blk), l[i]? = some (some b) → b.under n = true := by
     intro l n
     induction l with
     | nil => intro _ i b hb; simp at hb
     | cons c l ih =>
       intro hl i b hb
       cases c with
       | none => cases i with
         | zero => simp at hb
         | succ i => exact ih (by simpa [hUnder] using hl) i b (by simpa using hb)
       | some c =>
         simp [hUnder] at hl
         cases i with
         | zero => simp at hb; subst hb; exact hl.1
         | succ i => exact ih hl.2 i b (by simpa using hb)
   exact this hout _ huo
 have hFle : ∀ b o, F b = some o → frameOf M F ρ h π w b = some o := by
   intro b o hb
   unfold frameOf
   rw [if_pos (by simp [hb])]; exact hb
 have hFn : ∀ b, frameOf M F ρ h π w b = none → F b = none := by
   intro b hb
   cases e : F b with
   | none => rfl
   | some o => rw [hFle b o e] at hb; cases hb
 -- a block of the caller's that was not passed lies still
 have hstay : ∀ n blk x, n ∉ π2 → h n = some blk → ρ n = some x → 0 < x.R → ∃ obj, w.heap[x.b]? = some obj ∧ frameOf M F ρ h π w x.b = some obj ∧ BR M ρ x blk obj := by
   intro n blk x hn hb hx h0
   obtain ⟨x', hx', hr⟩ := hH.live n blk hb
   rw [hx] at hx'; obtain rfl := Option.some.inj hx'
   rcases hr with ⟨h00, _⟩ | ⟨_, h1, h2, o, h3, h4⟩
   · omega
   · refine ⟨o, h3, ?_, h4⟩
     unfold frameOf
     rw [if_neg (by simp [h2]), if_pos ?_]
     · exact h3
     · refine ⟨h1, ?_⟩
       rintro (⟨i, m, y, hm, hy, hy0, hyb⟩ | ⟨i, m, S, es, hm, hmf, hbS⟩)
       · obtain ⟨b, _, hb2, _⟩ := hsome i m hm
         have := hH.sep n m x y (by rw [hb]; simp) (by rw [hb2]; simp) hx hy h0 hy0 hyb.symm
         subst this
         have hi : i < hin.length := by rw [← hπ]; exact (List.getElem?_eq_some_iff.1 hm).1
         exact hn (List.mem_iff_getElem?.2 ⟨i, by rw [get1 i hi]; exact hm⟩)
       · obtain ⟨_, _, _, _, g2, _⟩ := hH.fam m S es hmf
         exact g2 n x (by rw [hb]; simp) hx h0 hbS
 -- a family of the caller's that was not passed lies still
 have hstayF : ∀ n S es, n ∉ π2 → h n = some (.fam S es) → ∀ b, b ∈ S → ∃ obj, w.heap[b]? = some obj ∧ frameOf M F ρ h π w b = some obj := by
   intro n S es hn hb b hbS
   obtain ⟨x, hx, g0, g1, g2, g3, _⟩ := hH.fam n S es hb
   obtain ⟨k1, k2, k3⟩ := g1 b hbS
   refine ⟨_, Array.getElem?_eq_getElem k3, ?_⟩
   unfold frameOf
   rw [if_neg (by simp [k2]), if_pos ?_]
   · exact Array.getElem?_eq_getElem k3
   · refine ⟨k1, ?_⟩
     rintro (⟨i, m, y, hm, hy, hy0, hyb⟩ | ⟨i, m, S', es', hm, hmf, hbS'⟩)
     · obtain ⟨b', _, hb2, _⟩ := hsome i m hm
       refine g2 m y (by rw [hb2]; simp) hy hy0 ?_
       rw [hyb]; exact hbS
     · by_cases e : m = n
       · subst e
         have hi : i < hin.length := by rw [← hπ]; exact (List.getElem?_eq_some_iff.1 hm).1
         exact hn (List.mem_iff_getElem?.2 ⟨i, by rw [get1 i hi]; exact hm⟩)
       · exact g3 m S' es' e hmf b hbS hbS'
 refine ⟨M', ρ2, r, hout, u, π2, rfl, by rw [hks, hπ2], hM, hle2, ?_, hv.fwd hsee' hur, ⟨hH'.imm, fun b o hb => hH'.frm b o (hFle b o hb), fun b o hb => hH'.dis b o (hFle b o hb), ?_, ?_, ?_⟩, hsame, hp⟩
 · intro n hn
   rw [hρ2, if_neg (by omega)]
 rotate_right
 · -- families
   have inside : ∀ (n i : Nat), π2[i]? = some n → ∀ blk, wrH h (wrOf π2 π2 hout) n = some blk → ∃ b, hOf hout i = some b ∧ blk = renB π2 b := by
     intro n i hi blk hn
     have hi2 : i < hout.length := by rw [← hlen2]; exact (List.getElem?_eq_some_iff.1 hi).1
     have hb := hwr1 i n _ hi (List.getElem?_eq_getElem hi2)
     rw [hn] at hb
     cases e : hout[i] with
     | none => rw [e] at hb; cases hb
     | some b =>
       rw [e] at hb
       refine ⟨b, ?_, by simpa using hb⟩
       unfold hOf; rw [List.getD_eq_getElem?_getD, List.getElem?_eq_getElem hi2, e]; rfl
   have fIn : ∀ (n i : Nat) S es, π2[i]? = some n → wrH h (wrOf π2 π2 hout) n = some (.fam S es) → ∃ es', hOf hout i = some (.fam S es') ∧ es = ⟨es'.es, renO π2 es'.op, es'.ly⟩ := by
     intro n i S es hi hn
     obtain ⟨b, hb, e⟩ := inside n i hi _ hn
     obtain ⟨es', rfl, he⟩ := renB_fam e.symm
     exact ⟨es', hb, he⟩
   -- the blocks of a family that was passed are not in the callee's frame; those of one that was not are
   have inS : ∀ (i : Nat) S es b, hOf hout i = some (.fam S es) → b ∈ S → frameOf M F ρ h π w b = none := by
     intro i S es b hi hb
     obtain ⟨_, _, _, g1, _⟩ := hH'.fam i S es hi
     exact (g1 b hb).2.1
   intro n S es hn
   by_cases hmem : n ∈ π2
   · obtain ⟨i, hi⟩ := List.mem_iff_getElem?.1 hmem
     obtain ⟨es', hlv, rfl⟩ := fIn n i S es hi hn
     obtain ⟨x, hx, g0, g1, g2, g3, g4⟩ := hH'.fam i S es' hlv
     refine ⟨x, by rw [hsee i n hi]; exact hx, g0, fun b hb => ⟨(g1 b hb).1, hFn _ (g1 b hb).2.1, (g1 b hb).2.2⟩, fun m y hm hy h0y => ?_, fun m S2 es2 hmn hm b hb => ?_, FR.ren.2 g4⟩
     · by_cases hm2 : m ∈ π2
       · obtain ⟨j, hj⟩ := List.mem_iff_getElem?.1 hm2
         obtain ⟨blk, hblk⟩ := Option.ne_none_iff_exists'.1 hm
         obtain ⟨b, hb, _⟩ := inside m j hj _ hblk
         exact g2 j y (by rw [hb]; simp) (by rw [← hsee j m hj]; exact hy) h0y
       · rw [hwr2 m hm2] at hm
         obtain ⟨blk, hblk⟩ := Option.ne_none_iff_exists'.1 hm
         obtain ⟨y', hy', _⟩ := hH.live m blk hblk
         have := hle2 m y' hy'
         rw [hy] at this; obtain rfl := Option.some.inj this
         obtain ⟨obj, _, k2, _⟩ := hstay m blk y hm2 hblk hy' h0y
         intro hb
         rw [(g1 _ hb).2.1] at k2; cases k2
     · by_cases hm2 : m ∈ π2
       · obtain ⟨j, hj⟩ := List.mem_iff_getElem?.1 hm2
         obtain ⟨es3, hlv3, _⟩ := fIn m j S2 es2 hj hm
         exact g3 j S2 es3 (fun e => hmn (by subst e; rw [hi] at hj; exact (Option.some.inj hj).symm)) hlv3 b hb
       · rw [hwr2 m hm2] at hm
         intro hb2
         obtain ⟨obj, _, k2⟩ := hstayF m S2 es2 hm2 hm b hb2
         rw [(g1 _ hb).2.1] at k2; cases k2
   · rw [hwr2 n hmem] at hn
     obtain ⟨x, hx, g0, g1, g2, g3, g4⟩ := hH.fam n S es hn
     obtain ⟨xo, _, hxF, _⟩ := hstay n _ x hmem hn hx g0
     refine ⟨x, hle2 n x hx, g0, fun b hb => ?_, fun m y hm hy h0y => ?_, fun m S2 es2 hmn hm b hb => ?_, g4.last hM (fun c hc => ?_)⟩
     · obtain ⟨obj, k1, k2⟩ := hstayF n S es hmem hn b hb
       exact ⟨hH'.dis _ _ k2, (g1 b hb).2.1, (Array.getElem?_eq_some_iff.1 (hH'.frm _ _ k2)).1⟩
     · by_cases hm2 : m ∈ π2
       · obtain ⟨j, hj⟩ := List.mem_iff_getElem?.1 hm2
         obtain ⟨blk, hblk⟩ := Option.ne_none_iff_exists'.1 hm
         obtain ⟨b, hb, _⟩ := inside m j hj _ hblk
         obtain ⟨y', hy', hr⟩ := hH'.live j b hb
         have := hsee j m hj
         rw [hy, hy'] at this; obtain rfl := Option.some.inj this
         intro hbS
         obtain ⟨obj, _, k2⟩ := hstayF n S es hmem hn _ hbS
         rcases hr with ⟨h00, _⟩ | ⟨_, _, k3, _⟩
         · omega
         · rw [k3] at k2; cases k2
       · rw [hwr2 m hm2] at hm
         obtain ⟨blk, hblk⟩ := Option.ne_none_iff_exists'.1 hm
         obtain ⟨y', hy', _⟩ := hH.live m blk hblk
         have := hle2 m y' hy'
         rw [hy] at this; obtain rfl := Option.some.inj this
         exact g2 m y hm hy' h0y
     · by_cases hm2 : m ∈ π2
       · obtain ⟨j, hj⟩ := List.mem_iff_getElem?.1 hm2
         obtain ⟨es3, hlv3, _⟩ := fIn m j S2 es2 hj hm
         intro hb2
         obtain ⟨obj, _, k2⟩ := hstayF n S es hmem hn b hb
         rw [inS j S2 es3 b hlv3 hb2] at k2; cases k2
       · rw [hwr2 m hm2] at hm
         exact g3 m S2 es2 hmn hm b hb
     · rcases hc with rfl | hc
       · rw [hH'.frm _ _ hxF]
         obtain ⟨obj, k1, k2, _⟩ := hstay n _ x hmem hn hx g0
         rw [hxF] at k2; obtain rfl := Option.some.inj k2
         exact k1.symm
       · obtain ⟨obj, k1, k2⟩ := hstayF n S es hmem hn c hc
         rw [hH'.frm _ _ k2, k1]
 · intro n blk hn
   by_cases hmem : n ∈ π2
   · obtain ⟨i, hi⟩ := List.mem_iff_getElem?.1 hmem
     have hi2 : i < hout.length := by rw [← hlen2]; exact (List.getElem?_eq_some_iff.1 hi).1
     have hb := hwr1 i n _ hi (List.getElem?_eq_getElem hi2)
     rw [hn] at hb
     cases e : hout[i] with
     | none => rw [e] at hb; cases hb
     | some b =>
       rw [e] at hb
       obtain rfl : blk = renB π2 b := by simpa using hb
       have hob : hout[i]? = some (some b) := by rw [List.getElem?_eq_getElem hi2, e]
       have hlv : hOf hout i = some b := by unfold hOf; rw [List.getD_eq_getElem?_getD, hob]; rfl
       obtain ⟨x, hx, hr⟩ := hH'.live i b hlv
       refine ⟨x, by rw [hsee i n hi]; exact hx, ?_⟩
       rcases hr with ⟨h0, hg⟩ | ⟨h0, h1, h2, o, h3, h4⟩
       · exact .inl ⟨h0, by rw [ghost_renB] at *; exact hg⟩
       · exact .inr ⟨h0, h1, hFn _ h2, o, h3, h4.fwd hsee' (hundo i b hob)⟩
   · rw [hwr2 n hmem] at hn
     obtain ⟨x, hx, hr⟩ := hH.live n blk hn
     refine ⟨x, hle2 n x hx, ?_⟩
     rcases hr with hr | ⟨h0, h1, h2, _, _, _⟩
     · exact .inl hr
     · obtain ⟨obj, _, g2, g3⟩ := hstay n blk x hmem hn hx h0
       exact .inr ⟨h0, hH'.dis _ _ g2, h2, obj, hH'.frm _ _ g2, g3.mono hM hle2⟩
 · intro p q x y hp hq hx hy h0x h0y hb
   have inside : ∀ (n i : Nat) (z : Own), π2[i]? = some n → wrH h (wrOf π2 π2 hout) n ≠ none → ρ2 n = some z → 0 < z.R → hOf hout i ≠ none ∧ ρ' i = some z ∧ frameOf M F ρ h π w z.b = none := by
     intro n i z hi hne hz h0
     have hi2 : i < hout.length := by rw [← hlen2]; exact (List.getElem?_eq_some_iff.1 hi).1
     have hb := hwr1 i n _ hi (List.getElem?_eq_getElem hi2)
     have hz' : ρ' i = some z := by rw [← hsee i n hi]; exact hz
     cases e : hout[i] with
     | none => rw [e] at hb; exact absurd hb hne
     | some b =>
       have hlv : hOf hout i = some b := by unfold hOf; rw [List.getD_eq_getElem?_getD, List.getElem?_eq_getElem hi2, e]; rfl
       obtain ⟨x, hx, hr⟩ := hH'.live i b hlv
       rw [hz'] at hx; obtain rfl := Option.some.inj hx
       rcases hr with ⟨h00, _⟩ | ⟨_, _, h2, _⟩
       · omega
       · exact ⟨by rw [hlv]; simp, hz', h2⟩
   have outside : ∀ (n : Nat) (z : Own), n ∉ π2 → wrH h (wrOf π2 π2 hout) n ≠ none → ρ2 n = some z → 0 < z.R → h n ≠ none ∧ ρ n = some z ∧ frameOf M F ρ h π w z.b ≠ none := by
     intro n z hn hne hz h0
     rw [hwr2 n hn] at hne
     obtain ⟨blk, hblk⟩ := Option.ne_none_iff_exists'.1 hne
     obtain ⟨x, hx, _⟩ := hH.live n blk hblk
     have := hle2 n x hx
     rw [hz] at this; obtain rfl := Option.some.inj this
     obtain ⟨obj, _, g2, _⟩ := hstay n blk _ hn hblk hx h0
     exact ⟨hne, hx, by rw [g2]; simp⟩
   by_cases hpm : p ∈ π2 <;> by_cases hqm : q ∈ π2
   · obtain ⟨i, hi⟩ := List.mem_iff_getElem?.1 hpm
     obtain ⟨j, hj⟩ := List.mem_iff_getElem?.1 hqm
     obtain ⟨a1, a2, a3⟩ := inside p i x hi hp hx h0x
     obtain ⟨b1, b2, b3⟩ := inside q j y hj hq hy h0y
     have := hH'.sep i j x y a1 b1 a2 b2 h0x h0y hb
     subst this
     rw [hi] at hj; exact Option.some.inj hj
   · obtain ⟨i, hi⟩ := List.mem_iff_getElem?.1 hpm
     obtain ⟨a1, a2, a3⟩ := inside p i x hi hp hx h0x
     obtain ⟨b1, b2, b3⟩ := outside q y hqm hq hy h0y
     rw [← hb] at b3; exact absurd a3 b3
   · obtain ⟨j, hj⟩ := List.mem_iff_getElem?.1 hqm
     obtain ⟨a1, a2, a3⟩ := inside q j y hj hq hy h0y
     obtain ⟨b1, b2, b3⟩ := outside p x hpm hp hx h0x
     rw [hb] at b3; exact absurd a3 b3
   · obtain ⟨a1, a2, a3⟩ := outside p x hpm hp hx h0x
     obtain ⟨b1, b2, b3⟩ := outside q y hqm hq hy h0y
     exact hH.sep p q x y a1 b1 a2 b2 h0x h0y hb
end Go.Proofs.YtpdojmebloekgaaDoor.Nice
