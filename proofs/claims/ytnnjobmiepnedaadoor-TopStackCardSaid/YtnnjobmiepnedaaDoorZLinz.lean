/- Runs whose histories could be one behind the other: from an algorithm's own invariants to the judge's yes. -/
import Derived.Test.YtnnjobmiepnedaaDoorZMPl
import Derived.Test.YtnnjobmiepnedaaDoorZMLin
namespace Go.Proofs.YtnnjobmiepnedaaDoor.Nice
open Go
set_option linter.unusedVariables false
set_option linter.unusedSimpArgs false
set_option maxRecDepth 100000
set_option maxHeartbeats 4000000
/-- A call of a run: its thread, which of the thread's, when it began and ended (-1: not yet), what it told. -/
structure Opn where
  th : Int
  n : Int
  b : Int
  e : Int
  r : List Int
  deriving Inhabited
/-- What a call does to the object, and what the object tells. -/
structure Lf where
  p : Bool
  v : Int
  y : Int
  r : Int
structure Lz where
  i : Nat
  f : Lf
def opEnd (x : Ev) (o : Opn) : Opn := if o.th = x.th ∧ o.n = x.call then ⟨o.th, o.n, o.b, x.st, x.told⟩ else o
def opStep (l : List Opn) (x : Ev) : List Opn := if x.fin = false then l ++ [⟨x.th, x.call, x.st, -1, []⟩] else l.map (opEnd x)
def opsOf (out : List Ev) : List Opn := out.foldl opStep []
theorem opsOf_snoc (out : List Ev) (x : Ev) : opsOf (out ++ [x]) = opStep (opsOf out) x := by unfold opsOf; rw [List.foldl_append]; rfl
abbrev opAt (l : List Opn) (i : Nat) : Opn := l.getD i default
theorem opAt_snoc {l : List Opn} {o : Opn} {i : Nat} (h : i < l.length) : opAt (l ++ [o]) i = opAt l i := by
  unfold opAt; rw [List.getD_eq_getElem?_getD, List.getElem?_append_left h, ← List.getD_eq_getElem?_getD]
theorem opAt_last {l : List Opn} {o : Opn} : opAt (l ++ [o]) l.length = o := by simp [opAt, List.getD]
theorem opAt_map {l : List Opn} {f : Opn → Opn} {i : Nat} (h : i < l.length) : opAt (l.map f) i = f (opAt l i) := by simp [opAt, List.getD, h]
def fAct (f : Lf) : Lin.Act := ⟨0, 0, f.p, f.v, f.y⟩
def stO (o0 : Lin.Ob) : List Lz → Lin.Ob
  | [] => o0
  | x :: l => (Lin.onext (stO o0 l) (fAct x.f)).1
def seqO (o0 : Lin.Ob) : List Lz → Prop
  | [] => True
  | x :: l => (Lin.onext (stO o0 l) (fAct x.f)).2 = x.f.r ∧ seqO o0 l
def RT (b e : Nat → Int) (n : Nat) : List Lz → Prop
  | [] => True
  | x :: l => (∀ i, i < n → e i ≠ -1 → e i < b x.i → i ∈ l.map Lz.i) ∧ RT b e n l
theorem seqO_app {o0 : Lin.Ob} : ∀ (a : List Lz) {c : List Lz}, seqO o0 (a ++ c) → seqO o0 c
  | [], _, h => h
  | x :: a, _, h => seqO_app a h.2
theorem RT_app {b e : Nat → Int} {n : Nat} : ∀ (a : List Lz) {c : List Lz}, RT b e n (a ++ c) → RT b e n c
  | [], _, h => h
  | x :: a, _, h => RT_app a h.2
theorem RT_congr {b e b' e' : Nat → Int} {n : Nat} : ∀ {l : List Lz}, RT b e n l → (∀ i, i < n → e i = e' i) → (∀ x, x ∈ l → b x.i = b' x.i) → RT b' e' n l
  | [], _, _, _ => trivial
  | x :: l, h, he, hb => ⟨fun i hi h1 h2 => h.1 i hi (by rw [he i hi]; exact h1) (by rw [he i hi, hb x (List.mem_cons_self ..)]; exact h2), RT_congr h.2 he fun y hy => hb y (List.mem_cons_of_mem _ hy)⟩
theorem stO_kind (o0 : Lin.Ob) : ∀ l, Lin.okind (stO o0 l) = Lin.okind o0
  | [] => rfl
  | x :: l => by rw [stO, Lin.onext_kind, stO_kind o0 l]
def mask : List Nat → Nat
  | [] => 0
  | i :: l => mask l ||| 2 ^ i
theorem mask_bit : ∀ (l : List Nat) (k : Nat), (mask l).testBit k = true ↔ k ∈ l
  | [], k => by simp [mask]
  | i :: l, k => by
    rw [mask, Lin.or_bit, Bool.or_eq_true, mask_bit l k, decide_eq_true_eq, List.mem_cons]
    exact ⟨fun h => h.elim .inr (fun h => .inl h.symm), fun h => h.elim (fun h => .inr h.symm) .inl⟩
/-- The judge says yes to a history that has an order. -/
theorem lin_yes {o0 : Lin.Ob} {L : List Lin.Act} {ord : List Lz} (lt : ∀ x, x ∈ ord → x.i < L.length) (nd : (ord.map Lz.i).Nodup)
    (en : ∀ i, i < L.length → (L.getD i default).e ≠ -1 → i ∈ ord.map Lz.i) (rt : RT (fun i => (L.getD i default).b) (fun i => (L.getD i default).e) L.length ord) (sq : seqO o0 ord)
    (nx : ∀ x, x ∈ ord → ∀ o, Lin.okind o = Lin.okind o0 → (Lin.onext o (L.getD x.i default)).1 = (Lin.onext o (fAct x.f)).1 ∧ ((L.getD x.i default).e ≠ -1 → (Lin.onext o (fAct x.f)).2 = x.f.r → (Lin.onext o (L.getD x.i default)).2 = (L.getD x.i default).v)) : Lin.FF L 0 o0 = true := by
  have key : ∀ (todo l2 : List Lz), todo.reverse ++ l2 = ord → Lin.FF L (mask (l2.map Lz.i)) (stO o0 l2) = true := by
    intro todo
    induction todo with
    | nil =>
      intro l2 h
      rw [List.reverse_nil, List.nil_append] at h
      subst h
      refine Lin.FF_all ?_
      unfold Lin.allTo
      rw [List.all_eq_true]
      intro i hi
      rw [List.mem_range] at hi
      rw [Bool.or_eq_true, decide_eq_true_eq]
      by_cases he : (L.getD i default).e = -1
      · exact .inl he
      · exact .inr ((mask_bit _ _).2 (en i hi he))
    | cons x todo ih =>
      intro l2 h
      have h' : todo.reverse ++ (x :: l2) = ord := by rw [← h]; simp
      have hi := ih (x :: l2) h'
      have hx : x ∈ ord := by rw [← h']; simp
      have hr : RT _ _ _ (x :: l2) := RT_app todo.reverse (by rw [h']; exact rt)
      have hs : seqO o0 (x :: l2) := seqO_app todo.reverse (by rw [h']; exact sq)
      have hnd : x.i ∉ l2.map Lz.i := by
        have := nd
        rw [← h', List.map_append, List.map_cons] at this
        exact (List.nodup_cons.1 (List.nodup_append.1 this).2.1).1
      obtain ⟨n1, n2⟩ := nx x hx (stO o0 l2) (stO_kind o0 l2)
      refine Lin.FF_br (lt x hx) ?_
      unfold Lin.brn
      rw [Bool.and_eq_true, Bool.and_eq_true, Bool.and_eq_true]
      refine ⟨?_, ?_, ?_, ?_⟩
      · cases hb : (mask (l2.map Lz.i)).testBit x.i with
        | false => rfl
        | true => exact absurd ((mask_bit _ _).1 hb) hnd
      · unfold Lin.rdyTo
        rw [List.all_eq_true]
        intro i hi
        rw [List.mem_range] at hi
        rw [Bool.or_eq_true, Bool.or_eq_true, decide_eq_true_eq, Bool.not_eq_true', decide_eq_false_iff_not]
        by_cases he : (L.getD i default).e = -1
        · exact .inr (.inl he)
        · by_cases hlt : (L.getD i default).e < (L.getD x.i default).b
          · exact .inl ((mask_bit _ _).2 (hr.1 i hi he hlt))
          · exact .inr (.inr hlt)
      · unfold Lin.fits
        rw [Bool.or_eq_true, decide_eq_true_eq, decide_eq_true_eq]
        by_cases he : (L.getD x.i default).e = -1
        · exact .inl he
        · exact .inr (n2 he hs.1)
      · rw [n1]; exact hi
  exact key ord.reverse [] (by simp)

/-- An algorithm: its machine of three threads, what holds of its words, of a thread in a call, of one that is in none. -/
structure Alg where
  q : Mach
  o0 : Lin.Ob
  G : Type
  g0 : G
  Sh : List Int → Lin.Ob → G → Prop
  Idle : G → Nat → Int → Prop
  TA : List Int → G → Nat → Int → List Ins → Thr → Option Lf → Prop
  Fit : CallD → Lf → Prop
  Tl : CallD → Lf → List Int → Prop
  three : q.ts.length = 3
  init : Sh q.ws o0 g0 ∧ ∀ j, Idle g0 j 0
  start : ∀ (ws : List Int) (ob : Lin.Ob) (g : G) (j : Nat) (n : Int), j < 3 → 0 ≤ n → n < (q.ts.getD j []).length → Sh ws ob g → Idle g j n →
    ∃ g', Sh ws ob g' ∧ TA ws g' j n (codeOf q j n) (vnew (codeOf q j n) (callAt q j n).args) none ∧ (∀ i m, i ≠ j → Idle g i m → Idle g' i m) ∧ (∀ i m C t f, i ≠ j → TA ws g i m C t f → TA ws g' i m C t f)
  step : ∀ (ws : List Int) (ob : Lin.Ob) (g : G) (j : Nat) (n : Int) (C : List Ins) (t : Thr) (f : Option Lf), j < 3 → 0 ≤ n → n < (q.ts.getD j []).length → Sh ws ob g → TA ws g j n C t f →
    ∃ g' ob' f', (f' = f ∧ ob' = ob ∨ f = none ∧ ∃ x, f' = some x ∧ Lin.onext ob (fAct x) = (ob', x.r) ∧ Fit (callAt q j n) x) ∧ Sh (vstep C ws t).2 ob' g' ∧
      ((vstep C ws t).1.ov = false → TA (vstep C ws t).2 g' j n C (vstep C ws t).1 f') ∧
      ((vstep C ws t).1.ov = true → Idle g' j (n + 1) ∧ ∃ x, f' = some x ∧ Tl (callAt q j n) x (vstep C ws t).1.told) ∧
      (∀ i m, i ≠ j → Idle g i m → Idle g' i m) ∧ (∀ i m C' t' f, i ≠ j → TA ws g i m C' t' f → TA (vstep C ws t).2 g' i m C' t' f)
def lkO (ord : List Lz) (i : Nat) : Option Lf := (ord.find? fun x => x.i == i).map Lz.f
theorem lkO_none {ord : List Lz} {i : Nat} (h : lkO ord i = none) : i ∉ ord.map Lz.i := by
  unfold lkO at h
  rw [Option.map_eq_none_iff, List.find?_eq_none] at h
  intro hm
  obtain ⟨x, hx, rfl⟩ := List.mem_map.1 hm
  exact h x hx (by simp)
theorem lkO_of_none {ord : List Lz} {i : Nat} (h : i ∉ ord.map Lz.i) : lkO ord i = none := by
  unfold lkO
  rw [Option.map_eq_none_iff, List.find?_eq_none]
  intro x hx hi
  exact h (by rw [List.mem_map]; exact ⟨x, hx, by simpa using hi⟩)
theorem lkO_some {ord : List Lz} {i : Nat} {f : Lf} (h : lkO ord i = some f) : ⟨i, f⟩ ∈ ord := by
  unfold lkO at h
  rw [Option.map_eq_some_iff] at h
  obtain ⟨x, hx, rfl⟩ := h
  have h1 := List.mem_of_find?_eq_some hx
  have h2 := List.find?_some hx
  have : x.i = i := by simpa using h2
  subst this; exact h1
theorem lkO_cons {ord : List Lz} {i i' : Nat} {f : Lf} : lkO (⟨i, f⟩ :: ord) i' = if i = i' then some f else lkO ord i' := by
  unfold lkO
  by_cases e : i = i'
  · subst e; simp
  · rw [if_neg e, List.find?_cons_of_neg (by simpa using e)]
structure GIz (ops : List Opn) (ord : List Lz) (k : Int) : Prop where
  lt : ∀ x, x ∈ ord → x.i < ops.length
  nd : (ord.map Lz.i).Nodup
  en : ∀ i, i < ops.length → (opAt ops i).e ≠ -1 → i ∈ ord.map Lz.i
  rt : RT (fun i => (opAt ops i).b) (fun i => (opAt ops i).e) ops.length ord
  tm : ∀ i, i < ops.length → 0 ≤ (opAt ops i).b ∧ (opAt ops i).b ≤ k ∧ ((opAt ops i).e = -1 ∨ (opAt ops i).b ≤ (opAt ops i).e ∧ (opAt ops i).e ≤ k)
  un : ∀ i i', i < ops.length → i' < ops.length → (opAt ops i).th = (opAt ops i').th → (opAt ops i).n = (opAt ops i').n → i = i'
def cAt (q : Mach) (o : Opn) : CallD := callAt q o.th.toNat o.n
structure TI2 (A : Alg) (ops : List Opn) (ord : List Lz) (ws : List Int) (g : A.G) (j : Nat) (s : TS) : Prop where
  nx : 0 ≤ s.nx ∧ s.nx ≤ (A.q.ts.getD j []).length
  lo : ∀ i, i < ops.length → (opAt ops i).th = j → 0 ≤ (opAt ops i).n ∧ (opAt ops i).n < s.nx
  idle : s.cur = none → A.Idle g j s.nx ∧ ∀ i, i < ops.length → (opAt ops i).th = j → (opAt ops i).e ≠ -1
  cur : ∀ p, s.cur = some p → 1 ≤ s.nx ∧ ∃ i, i < ops.length ∧ (opAt ops i).th = j ∧ (opAt ops i).n = s.nx - 1 ∧ (opAt ops i).e = -1 ∧ (∀ i', i' < ops.length → (opAt ops i').th = j → (opAt ops i').e = -1 → i' = i) ∧ A.TA ws g j (s.nx - 1) p.1 p.2 (lkO ord i)
structure Core (A : Alg) (k : Int) (ws : List Int) (out : List Ev) (ts : Nat → TS) (ord : List Lz) (g : A.G) : Prop where
  gi : GIz (opsOf out) ord k
  sq : seqO A.o0 ord
  sh : A.Sh ws (stO A.o0 ord) g
  ft : ∀ x, x ∈ ord → A.Fit (cAt A.q (opAt (opsOf out) x.i)) x.f
  tl : ∀ x, x ∈ ord → (opAt (opsOf out) x.i).e ≠ -1 → A.Tl (cAt A.q (opAt (opsOf out) x.i)) x.f (opAt (opsOf out) x.i).r
  th : ∀ i, i < (opsOf out).length → 0 ≤ (opAt (opsOf out) i).th ∧ (opAt (opsOf out) i).th < 3
  ti : ∀ j, j < 3 → TI2 A (opsOf out) ord ws g j (ts j)
  ct : ((opsOf out).length : Int) = (ts 0).nx + (ts 1).nx + (ts 2).nx
  ev : ∀ x, x ∈ out → 0 ≤ x.th ∧ x.th < 3 ∧ 0 ≤ x.call ∧ x.call < (A.q.ts.getD x.th.toNat []).length ∧ 0 ≤ x.st ∧ x.st ≤ k
  et : ∀ x, x ∈ out → x.fin = true → ∃ f, A.Tl (callAt A.q x.th.toNat x.call) f x.told
def put1 (ts : Nat → TS) (j : Nat) (s : TS) : Nat → TS := fun i => if i = j then s else ts i
theorem begin_core {A : Alg} {k : Int} {ws : List Int} {out : List Ev} {ts : Nat → TS} {ord : List Lz} {g : A.G} (h : Core A k ws out ts ord g) (hk : 0 ≤ k) {j : Nat} (hj : j < 3) {nx : Int} (hs : ts j = ⟨nx, none⟩) (hlt : nx < (A.q.ts.getD j []).length) :
    ∃ g', Core A k ws (out ++ [⟨k, j, nx, false, 0, []⟩]) (put1 ts j ⟨nx + 1, some (codeOf A.q j nx, vnew (codeOf A.q j nx) (callAt A.q j nx).args)⟩) ord g' := by
  have tj := h.ti j hj
  rw [hs] at tj
  have hnx : 0 ≤ nx := tj.nx.1
  obtain ⟨hid, hne⟩ := tj.idle rfl
  have hlo : ∀ i, i < (opsOf out).length → (opAt (opsOf out) i).th = j → 0 ≤ (opAt (opsOf out) i).n ∧ (opAt (opsOf out) i).n < nx := tj.lo
  obtain ⟨g', s1, s2, s3, s4⟩ := A.start ws _ g j nx hj hnx hlt h.sh hid
  have e : opsOf (out ++ [⟨k, j, nx, false, 0, []⟩]) = opsOf out ++ [⟨j, nx, k, -1, []⟩] := by rw [opsOf_snoc]; rfl
  have hlen : (opsOf out ++ [(⟨j, nx, k, -1, []⟩ : Opn)]).length = (opsOf out).length + 1 := by simp
  have old : ∀ i, i < (opsOf out).length → opAt (opsOf out ++ [⟨j, nx, k, -1, []⟩]) i = opAt (opsOf out) i := fun i hi => opAt_snoc hi
  have new : opAt (opsOf out ++ [⟨j, nx, k, -1, []⟩]) (opsOf out).length = ⟨j, nx, k, -1, []⟩ := opAt_last
  have cases1 : ∀ i, i < (opsOf out ++ [(⟨j, nx, k, -1, []⟩ : Opn)]).length → i < (opsOf out).length ∨ i = (opsOf out).length := fun i hi => by rw [hlen] at hi; omega
  refine ⟨g', ⟨?_, h.sq, s1, ?_, ?_, ?_, ?_, ?_, ?_, ?_⟩⟩
  · rw [e]
    refine ⟨fun x hx => by have := h.gi.lt x hx; rw [hlen]; omega, h.gi.nd, fun i hi he => ?_, ?_, fun i hi => ?_, fun i i' hi hi' h1 h2 => ?_⟩
    · rcases cases1 i hi with hi | rfl
      · rw [old i hi] at he; exact h.gi.en i hi he
      · rw [new] at he; exact absurd rfl he
    · have : ∀ l : List Lz, (∀ x, x ∈ l → x.i < (opsOf out).length) → RT (fun i => (opAt (opsOf out) i).b) (fun i => (opAt (opsOf out) i).e) (opsOf out).length l → RT (fun i => (opAt (opsOf out ++ [⟨j, nx, k, -1, []⟩]) i).b) (fun i => (opAt (opsOf out ++ [⟨j, nx, k, -1, []⟩]) i).e) (opsOf out ++ [(⟨j, nx, k, -1, []⟩ : Opn)]).length l := by
        intro l
        induction l with
        | nil => intro _ _; trivial
        | cons x l ih =>
          intro hl hr
          refine ⟨fun i hi h1 h2 => ?_, ih (fun y hy => hl y (List.mem_cons_of_mem _ hy)) hr.2⟩
          simp only at h1 h2
          rcases cases1 i hi with hi | rfl
          · rw [old i hi] at h1 h2
            rw [old x.i (hl x (List.mem_cons_self ..))] at h2
            exact hr.1 i hi h1 h2
          · rw [new] at h1; exact absurd rfl h1
      exact this ord h.gi.lt h.gi.rt
    · rcases cases1 i hi with hi | rfl
      · rw [old i hi]; exact h.gi.tm i hi
      · rw [new]; exact ⟨hk, Int.le_refl _, .inl rfl⟩
    · rcases cases1 i hi with hi | rfl
      · rcases cases1 i' hi' with hi' | rfl
        · rw [old i hi, old i' hi'] at h1 h2; exact h.gi.un i i' hi hi' h1 h2
        · rw [old i hi, new] at h1 h2
          have := hlo i hi h1
          simp only at h2; omega
      · rcases cases1 i' hi' with hi' | rfl
        · rw [old i' hi', new] at h1 h2
          have := hlo i' hi' h1.symm
          simp only at h2; omega
        · rfl
  · rw [e]; intro x hx; rw [old x.i (h.gi.lt x hx)]; exact h.ft x hx
  · rw [e]; intro x hx; rw [old x.i (h.gi.lt x hx)]; exact h.tl x hx
  · rw [e]; intro i hi
    rcases cases1 i hi with hi | rfl
    · rw [old i hi]; exact h.th i hi
    · rw [new]; simp only; omega
  · rw [e]; intro i hi3
    unfold put1
    by_cases eij : i = j
    · subst eij
      rw [if_pos rfl]
      refine ⟨⟨by simp only; omega, by simp only; omega⟩, fun m hm ht => ?_, fun hc => (by cases hc), fun p hp => ?_⟩
      · rcases cases1 m hm with hm | rfl
        · rw [old m hm] at ht ⊢; have := hlo m hm ht; simp only; omega
        · rw [new]; simp only; omega
      · cases hp
        refine ⟨by simp only; omega, (opsOf out).length, by rw [hlen]; omega, by rw [new], by rw [new]; simp only; omega, by rw [new], fun m hm ht he => ?_, ?_⟩
        · rcases cases1 m hm with hm | rfl
          · rw [old m hm] at ht he; exact absurd he (hne m hm ht)
          · rfl
        · rw [lkO_of_none (fun hm => by obtain ⟨x, hx, hxe⟩ := List.mem_map.1 hm; have := h.gi.lt x hx; omega)]
          simp only
          rw [show nx + 1 - 1 = nx by omega]; exact s2
    · rw [if_neg eij]
      have ti := h.ti i hi3
      have nth : ((j : Int) = (i : Int)) → False := fun h => eij (by omega)
      refine ⟨ti.nx, fun m hm ht => ?_, fun hc => ⟨s3 i _ eij (ti.idle hc).1, fun m hm ht => ?_⟩, fun p hp => ?_⟩
      · rcases cases1 m hm with hm | rfl
        · rw [old m hm] at ht ⊢; exact ti.lo m hm ht
        · rw [new] at ht; exact (nth ht).elim
      · rcases cases1 m hm with hm | rfl
        · rw [old m hm] at ht ⊢; exact (ti.idle hc).2 m hm ht
        · rw [new] at ht; exact (nth ht).elim
      · obtain ⟨c0, m, c1, c2, c3, c4, c5, c6⟩ := ti.cur p hp
        refine ⟨c0, m, by rw [hlen]; omega, by rw [old m c1]; exact c2, by rw [old m c1]; exact c3, by rw [old m c1]; exact c4, fun m' hm ht he => ?_, s4 i _ _ _ _ eij c6⟩
        rcases cases1 m' hm with hm | rfl
        · rw [old m' hm] at ht he; exact c5 m' hm ht he
        · rw [new] at ht; exact (nth ht).elim
  · rw [e, hlen]
    have := h.ct
    rcases (show j = 0 ∨ j = 1 ∨ j = 2 by omega) with rfl | rfl | rfl
    all_goals
      simp only [put1]
      rw [hs] at this
      simp at this ⊢
      omega
  · intro x hx
    rcases List.mem_append.1 hx with hx | hx
    · exact h.ev x hx
    · rw [List.mem_singleton.1 hx]
      refine ⟨by simp only; omega, by simp only; omega, hnx, ?_, hk, Int.le_refl _⟩
      simp only [Int.toNat_natCast]; exact hlt
  · intro x hx hf
    rcases List.mem_append.1 hx with hx | hx
    · exact h.et x hx hf
    · rw [List.mem_singleton.1 hx] at hf; cases hf
theorem lin_gi {ops : List Opn} {ord : List Lz} {k : Int} (h : GIz ops ord k) {i : Nat} (hi : i < ops.length) (hn : i ∉ ord.map Lz.i) (f : Lf) : GIz ops (⟨i, f⟩ :: ord) k :=
  ⟨fun x hx => by rcases List.mem_cons.1 hx with rfl | hx; exact hi; exact h.lt x hx, List.nodup_cons.2 ⟨hn, h.nd⟩, fun m hm he => List.mem_cons_of_mem _ (h.en m hm he), ⟨fun m hm he _ => h.en m hm he, h.rt⟩, h.tm, h.un⟩
theorem end_get {ops : List Opn} {x : Ev} {i : Nat} (un : ∀ i i', i < ops.length → i' < ops.length → (opAt ops i).th = (opAt ops i').th → (opAt ops i).n = (opAt ops i').n → i = i') (hi : i < ops.length) (h1 : (opAt ops i).th = x.th) (h2 : (opAt ops i).n = x.call) :
    opAt (ops.map (opEnd x)) i = ⟨(opAt ops i).th, (opAt ops i).n, (opAt ops i).b, x.st, x.told⟩ ∧ ∀ m, m < ops.length → m ≠ i → opAt (ops.map (opEnd x)) m = opAt ops m := by
  refine ⟨by rw [opAt_map hi]; unfold opEnd; rw [if_pos ⟨h1, h2⟩], fun m hm hne => ?_⟩
  rw [opAt_map hm]; unfold opEnd
  rw [if_neg (fun hh => hne (un m i hm hi (hh.1.trans h1.symm) (hh.2.trans h2.symm)))]
theorem end_gi {ops : List Opn} {ord : List Lz} {k : Int} (h : GIz ops ord k) (hk : 0 ≤ k) {x : Ev} {i : Nat} (hi : i < ops.length) (h1 : (opAt ops i).th = x.th) (h2 : (opAt ops i).n = x.call) (hst : x.st = k) (he : (opAt ops i).e = -1) (hin : i ∈ ord.map Lz.i) : GIz (ops.map (opEnd x)) ord k := by
  obtain ⟨g1, g2⟩ := end_get h.un hi h1 h2
  have hlen : (ops.map (opEnd x)).length = ops.length := by simp
  have same : ∀ m, m < ops.length → (opAt (ops.map (opEnd x)) m).th = (opAt ops m).th ∧ (opAt (ops.map (opEnd x)) m).n = (opAt ops m).n ∧ (opAt (ops.map (opEnd x)) m).b = (opAt ops m).b := by
    intro m hm
    by_cases e : m = i
    · subst e; rw [g1]; exact ⟨rfl, rfl, rfl⟩
    · rw [g2 m hm e]; exact ⟨rfl, rfl, rfl⟩
  refine ⟨fun y hy => by rw [hlen]; exact h.lt y hy, h.nd, fun m hm hme => ?_, ?_, fun m hm => ?_, fun m m' hm hm' e1 e2 => ?_⟩
  · rw [hlen] at hm
    by_cases e : m = i
    · subst e; exact hin
    · rw [g2 m hm e] at hme; exact h.en m hm hme
  · have : ∀ l : List Lz, (∀ y, y ∈ l → y.i < ops.length) → RT (fun i => (opAt ops i).b) (fun i => (opAt ops i).e) ops.length l → RT (fun i => (opAt (ops.map (opEnd x)) i).b) (fun i => (opAt (ops.map (opEnd x)) i).e) (ops.map (opEnd x)).length l := by
      intro l
      induction l with
      | nil => intro _ _; trivial
      | cons y l ih =>
        intro hl hr
        refine ⟨fun m hm e1 e2 => ?_, ih (fun z hz => hl z (List.mem_cons_of_mem _ hz)) hr.2⟩
        rw [hlen] at hm
        simp only at e1 e2
        have hy := hl y (List.mem_cons_self ..)
        rw [(same y.i hy).2.2] at e2
        by_cases e : m = i
        · subst e
          rw [g1] at e2
          simp only at e2
          have := (h.tm y.i hy).2.1
          omega
        · rw [g2 m hm e] at e1 e2
          exact hr.1 m hm e1 e2
    exact this ord h.lt h.rt
  · rw [hlen] at hm
    by_cases e : m = i
    · subst e
      rw [g1]
      have := h.tm m hm
      simp only; omega
    · rw [g2 m hm e]; exact h.tm m hm
  · rw [hlen] at hm hm'
    rw [(same m hm).1, (same m' hm').1] at e1
    rw [(same m hm).2.1, (same m' hm').2.1] at e2
    exact h.un m m' hm hm' e1 e2
theorem go_core {A : Alg} {k : Int} {ws : List Int} {out : List Ev} {ts : Nat → TS} {ord : List Lz} {g : A.G} (h : Core A k ws out ts ord g) (hk : 0 ≤ k) {j : Nat} (hj : j < 3) {nx : Int} {C : List Ins} {t : Thr} (hs : ts j = ⟨nx, some (C, t)⟩) :
    ∃ ord' g', Core A k (pgo j k nx C t ws out).2.1 (pgo j k nx C t ws out).2.2 (put1 ts j (pgo j k nx C t ws out).1) ord' g' := by
  have tj := h.ti j hj
  rw [hs] at tj
  obtain ⟨c0, i, c1, c2, c3, c4, c5, c6⟩ := tj.cur _ rfl
  have hnx := tj.nx
  simp only at c0 c3 c6 hnx
  obtain ⟨g', ob', f', s1, s2, s3, s4, s5, s6⟩ := A.step ws _ g j (nx - 1) C t _ hj (by omega) (by omega) h.sh c6
  have hcat : cAt A.q (opAt (opsOf out) i) = callAt A.q j (nx - 1) := by unfold cAt; rw [c2, c3, Int.toNat_natCast]
  -- the order behind the step
  obtain ⟨ord', o1, o2, o3, o4, o5, o6, o7, o8⟩ : ∃ ord', GIz (opsOf out) ord' k ∧ seqO A.o0 ord' ∧ stO A.o0 ord' = ob' ∧ lkO ord' i = f' ∧ (∀ m, m ≠ i → lkO ord' m = lkO ord m) ∧ (∀ x, x ∈ ord' → A.Fit (cAt A.q (opAt (opsOf out) x.i)) x.f) ∧
      (∀ x, x ∈ ord' → x.i ≠ i → x ∈ ord) ∧ (∀ x, x ∈ ord' → x.i = i → f' = some x.f) := by
    have pick : ∀ x, x ∈ ord → x.i = i → lkO ord i = some x.f := by
      intro x hx hxi
      cases hl : lkO ord i with
      | none => exact absurd (List.mem_map.2 ⟨x, hx, hxi⟩) (lkO_none hl)
      | some f =>
        have h2 := lkO_some hl
        have : ∀ l : List Lz, (l.map Lz.i).Nodup → ∀ a b, a ∈ l → b ∈ l → a.i = b.i → a = b := by
          intro l
          induction l with
          | nil => intro _ a b ha; cases ha
          | cons z l ih =>
            intro hn a b ha hb hab
            rw [List.map_cons, List.nodup_cons] at hn
            rcases List.mem_cons.1 ha with e1 | ha1
            · rcases List.mem_cons.1 hb with e2 | hb1
              · rw [e1, e2]
              · subst e1; exact absurd (List.mem_map.2 ⟨b, hb1, hab.symm⟩) hn.1
            · rcases List.mem_cons.1 hb with e2 | hb1
              · subst e2; exact absurd (List.mem_map.2 ⟨a, ha1, hab⟩) hn.1
              · exact ih hn.2 a b ha1 hb1 hab
        rw [this ord h.gi.nd x ⟨i, f⟩ hx h2 hxi]
    rcases s1 with ⟨e1, e2⟩ | ⟨e1, x, e2, e3, e4⟩
    · exact ⟨ord, h.gi, h.sq, e2.symm, e1.symm, fun _ _ => rfl, h.ft, fun x hx _ => hx, fun x hx hxi => by rw [e1]; exact pick x hx hxi⟩
    · have hn := lkO_none e1
      refine ⟨⟨i, x⟩ :: ord, lin_gi h.gi c1 hn x, ⟨by rw [e3], h.sq⟩, by rw [stO, e3], by rw [lkO_cons, if_pos rfl, e2], fun m hm => by rw [lkO_cons, if_neg (Ne.symm hm)], fun y hy => ?_, fun y hy hyi => ?_, fun y hy hyi => ?_⟩
      · rcases List.mem_cons.1 hy with rfl | hy
        · simp only; rw [hcat]; exact e4
        · exact h.ft y hy
      · rcases List.mem_cons.1 hy with rfl | hy
        · exact absurd rfl hyi
        · exact hy
      · rcases List.mem_cons.1 hy with rfl | hy
        · exact e2
        · exact absurd (List.mem_map.2 ⟨y, hy, hyi⟩) hn
  have other : ∀ m, m < 3 → m ≠ j → TI2 A (opsOf out) ord' (vstep C ws t).2 g' m (ts m) := by
    intro m hm hne
    have ti := h.ti m hm
    refine ⟨ti.nx, ti.lo, fun hc => ⟨s5 m _ hne (ti.idle hc).1, (ti.idle hc).2⟩, fun p hp => ?_⟩
    obtain ⟨d0, i', d1, d2, d3, d4, d5, d6⟩ := ti.cur p hp
    have : i' ≠ i := by rintro rfl; rw [c2] at d2; omega
    exact ⟨d0, i', d1, d2, d3, d4, d5, by rw [o5 i' this]; exact s6 m _ _ _ _ hne d6⟩
  refine ⟨ord', g', ?_⟩
  unfold pgo
  cases hov : (vstep C ws t).1.ov with
  | false =>
    rw [if_neg (by decide)]
    refine ⟨o1, o2, by rw [o3]; exact s2, o6, fun x hx he => ?_, h.th, fun m hm => ?_, ?_, h.ev, h.et⟩
    · by_cases hxi : x.i = i
      · rw [hxi] at he; exact absurd c4 he
      · exact h.tl x (o7 x hx hxi) he
    · unfold put1
      by_cases e : m = j
      · subst e
        rw [if_pos rfl]
        exact ⟨hnx, tj.lo, fun hc => (by cases hc), fun p hp => by cases hp; exact ⟨c0, i, c1, c2, c3, c4, c5, by rw [o4]; exact s3 hov⟩⟩
      · rw [if_neg e]; exact other m hm e
    · have := h.ct
      rcases (show j = 0 ∨ j = 1 ∨ j = 2 by omega) with rfl | rfl | rfl
      all_goals
        simp only [put1]
        rw [hs] at this
        simp at this ⊢
        omega
  | true =>
    rw [if_pos rfl]
    obtain ⟨t1, x, t2, t3⟩ := s4 hov
    have hin : i ∈ ord'.map Lz.i := by
      have := lkO_some (o4.trans t2)
      exact List.mem_map.2 ⟨_, this, rfl⟩
    have e : opsOf (out ++ [⟨k, j, nx - 1, true, (vstep C ws t).1.e, (vstep C ws t).1.told⟩]) = (opsOf out).map (opEnd ⟨k, j, nx - 1, true, (vstep C ws t).1.e, (vstep C ws t).1.told⟩) := by rw [opsOf_snoc]; rfl
    generalize hev : (⟨k, j, nx - 1, true, (vstep C ws t).1.e, (vstep C ws t).1.told⟩ : Ev) = ev at e
    have v1 : ev.th = j := by rw [← hev]
    have v2 : ev.call = nx - 1 := by rw [← hev]
    have v3 : ev.st = k := by rw [← hev]
    have v4 : ev.told = (vstep C ws t).1.told := by rw [← hev]
    obtain ⟨g1, g2⟩ := end_get o1.un c1 (c2.trans v1.symm) (c3.trans v2.symm)
    have hlen : ((opsOf out).map (opEnd ev)).length = (opsOf out).length := by simp
    have same : ∀ m, m < (opsOf out).length → (opAt ((opsOf out).map (opEnd ev)) m).th = (opAt (opsOf out) m).th ∧ (opAt ((opsOf out).map (opEnd ev)) m).n = (opAt (opsOf out) m).n := by
      intro m hm
      by_cases e : m = i
      · subst e; rw [g1]; exact ⟨rfl, rfl⟩
      · rw [g2 m hm e]; exact ⟨rfl, rfl⟩
    have cat2 : ∀ m, m < (opsOf out).length → cAt A.q (opAt ((opsOf out).map (opEnd ev)) m) = cAt A.q (opAt (opsOf out) m) := by
      intro m hm; unfold cAt; rw [(same m hm).1, (same m hm).2]
    refine ⟨?_, o2, by rw [o3]; exact s2, ?_, ?_, ?_, ?_, ?_, ?_, ?_⟩
    · simp only; rw [e]; exact end_gi o1 hk c1 (c2.trans v1.symm) (c3.trans v2.symm) v3 c4 hin
    · simp only; rw [e]; intro y hy; rw [cat2 y.i (o1.lt y hy)]; exact o6 y hy
    · simp only; rw [e]; intro y hy hye
      rw [cat2 y.i (o1.lt y hy)]
      by_cases hyi : y.i = i
      · have hf := o8 y hy hyi
        rw [t2] at hf
        rw [hyi, hcat, g1]
        simp only
        rw [v4, ← Option.some.inj hf]; exact t3
      · rw [g2 y.i (o1.lt y hy) hyi] at hye ⊢
        exact h.tl y (o7 y hy hyi) hye
    · simp only; rw [e]; intro m hm
      rw [hlen] at hm
      rw [(same m hm).1]; exact h.th m hm
    · simp only; rw [e]; intro m hm
      unfold put1
      by_cases em : m = j
      · subst em
        rw [if_pos rfl]
        refine ⟨hnx, fun m' hm' ht => ?_, fun _ => ⟨by have := t1; rw [show nx - 1 + 1 = nx by omega] at this; exact this, fun m' hm' ht => ?_⟩, fun p hp => by cases hp⟩
        · rw [hlen] at hm'
          rw [(same m' hm').1] at ht
          rw [(same m' hm').2]; exact tj.lo m' hm' ht
        · rw [hlen] at hm'
          rw [(same m' hm').1] at ht
          by_cases e1 : m' = i
          · subst e1; rw [g1]; simp only; omega
          · rw [g2 m' hm' e1]; exact fun he => e1 (c5 m' hm' ht he)
      · rw [if_neg em]
        have ti := other m hm em
        refine ⟨ti.nx, fun m' hm' ht => ?_, fun hc => ⟨(ti.idle hc).1, fun m' hm' ht => ?_⟩, fun p hp => ?_⟩
        · rw [hlen] at hm'
          rw [(same m' hm').1] at ht
          rw [(same m' hm').2]; exact ti.lo m' hm' ht
        · rw [hlen] at hm'
          rw [(same m' hm').1] at ht
          have e1 : m' ≠ i := by rintro rfl; rw [c2] at ht; omega
          rw [g2 m' hm' e1]; exact (ti.idle hc).2 m' hm' ht
        · obtain ⟨d0, i', d1, d2, d3, d4, d5, d6⟩ := ti.cur p hp
          have e1 : i' ≠ i := by rintro rfl; rw [c2] at d2; omega
          refine ⟨d0, i', by rw [hlen]; exact d1, by rw [g2 i' d1 e1]; exact d2, by rw [g2 i' d1 e1]; exact d3, by rw [g2 i' d1 e1]; exact d4, fun m' hm' ht he => ?_, d6⟩
          rw [hlen] at hm'
          rw [(same m' hm').1] at ht
          have e2 : m' ≠ i := by rintro rfl; rw [c2] at ht; omega
          rw [g2 m' hm' e2] at he
          exact d5 m' hm' ht he
    · simp only; rw [e, hlen]
      have := h.ct
      rcases (show j = 0 ∨ j = 1 ∨ j = 2 by omega) with rfl | rfl | rfl
      all_goals
        simp only [put1]
        rw [hs] at this
        simp at this ⊢
        omega
    · intro x hx
      rcases List.mem_append.1 hx with hx | hx
      · exact h.ev x hx
      · rw [List.mem_singleton.1 hx]
        refine ⟨by rw [v1]; omega, by rw [v1]; omega, by rw [v2]; omega, ?_, by rw [v3]; exact hk, by rw [v3]; exact Int.le_refl _⟩
        rw [v1, v2, Int.toNat_natCast]; omega
    · intro y hy hf
      rcases List.mem_append.1 hy with hy | hy
      · exact h.et y hy hf
      · rw [List.mem_singleton.1 hy]
        refine ⟨x, ?_⟩
        rw [v1, v2, v4, Int.toNat_natCast]; exact t3
theorem core_later {A : Alg} {k : Int} {ws : List Int} {out : List Ev} {ts : Nat → TS} {ord : List Lz} {g : A.G} (h : Core A k ws out ts ord g) : Core A (k + 1) ws out ts ord g :=
  ⟨⟨h.gi.lt, h.gi.nd, h.gi.en, h.gi.rt, fun i hi => by have := h.gi.tm i hi; omega, h.gi.un⟩, h.sq, h.sh, h.ft, h.tl, h.th, h.ti, h.ct, fun x hx => by have := h.ev x hx; omega, h.et⟩
def tsF (l : List TS) : Nat → TS := fun j => l.getD j ⟨0, none⟩
theorem tsF_set {l : List TS} {j : Nat} {s : TS} (h : j < l.length) : tsF (l.set j s) = put1 (tsF l) j s := by
  funext i
  unfold tsF put1
  rw [List.getD_eq_getElem?_getD, List.getElem?_set]
  by_cases e : i = j
  · subst e; simp [h]
  · rw [if_neg (Ne.symm e), if_neg e]; simp [List.getD]
theorem put1_twice (ts : Nat → TS) (j : Nat) (a b : TS) : put1 (put1 ts j a) j b = put1 ts j b := by
  funext i; unfold put1; split <;> rfl
theorem put1_same {ts : Nat → TS} {j : Nat} {a : TS} (h : ts j = a) : put1 ts j a = ts := by
  funext i; unfold put1; split
  · next e => rw [e, h]
  · rfl
theorem step_core {A : Alg} {k : Nat} {s : PS} {ord : List Lz} {g : A.G} {j : Nat} (hj : j < 3) (hl : s.ts.length = 3) (h : Core A k s.ws s.out (tsF s.ts) ord g) :
    (pstep A.q j k s).ts.length = 3 ∧ ∃ ord' g', Core A (k + 1 : Nat) (pstep A.q j k s).ws (pstep A.q j k s).out (tsF (pstep A.q j k s).ts) ord' g' := by
  unfold pstep
  refine ⟨by simp only [List.length_set]; exact hl, ?_⟩
  simp only
  rw [tsF_set (by omega)]
  have hk : (0 : Int) ≤ k := by omega
  show ∃ ord' g', Core A ((k : Int) + 1) _ _ _ ord' g'
  suffices hh : ∃ ord' g', Core A k (pbody A.q j k (s.ts.getD j ⟨0, none⟩) s.ws s.out).2.1 (pbody A.q j k (s.ts.getD j ⟨0, none⟩) s.ws s.out).2.2 (put1 (tsF s.ts) j (pbody A.q j k (s.ts.getD j ⟨0, none⟩) s.ws s.out).1) ord' g' by
    obtain ⟨o, g, hh⟩ := hh
    exact ⟨o, g, core_later hh⟩
  have hsj : tsF s.ts j = s.ts.getD j ⟨0, none⟩ := rfl
  generalize s.ts.getD j ⟨0, none⟩ = sj at hsj
  obtain ⟨nx, cur⟩ := sj
  cases cur with
  | none =>
    by_cases hlt : nx < (A.q.ts.getD j []).length
    · rw [pb_begin hlt]
      obtain ⟨g1, h1⟩ := begin_core h hk hj hsj hlt
      obtain ⟨o2, g2, h2⟩ := go_core h1 hk hj (show put1 _ j _ j = _ from if_pos rfl)
      rw [put1_twice] at h2
      exact ⟨o2, g2, h2⟩
    · rw [pb_idle hlt]
      simp only
      rw [put1_same hsj]
      exact ⟨ord, g, h⟩
  | some p =>
    obtain ⟨C, t⟩ := p
    rw [pb_go]
    exact go_core h hk hj hsj
theorem run_core {A : Alg} : ∀ (sc : List Int) (k : Nat) (s : PS) (ord : List Lz) (g : A.G), (∀ v, v ∈ sc → 0 ≤ v ∧ v < 3) → s.ts.length = 3 → Core A k s.ws s.out (tsF s.ts) ord g →
    ∃ ord' g', Core A (k + sc.length : Nat) (prun A.q sc k s).ws (prun A.q sc k s).out (tsF (prun A.q sc k s).ts) ord' g'
  | [], k, s, ord, g, _, _, h => ⟨ord, g, h⟩
  | v :: r, k, s, ord, g, hb, hl, h => by
    have hv := hb v (List.mem_cons_self ..)
    obtain ⟨h1, o1, g1, h2⟩ := step_core (j := v.toNat) (by omega) hl h
    have := run_core r (k + 1) _ o1 g1 (fun u hu => hb u (List.mem_cons_of_mem _ hu)) h1 h2
    rw [List.length_cons, show k + (r.length + 1) = k + 1 + r.length by omega]
    exact this
theorem init_core (A : Alg) : Core A 0 A.q.ws [] (tsF (pinit A.q).ts) [] A.g0 := by
  have get : ∀ j, tsF (pinit A.q).ts j = ⟨0, none⟩ := by
    intro j; unfold tsF pinit
    rw [List.getD_eq_getElem?_getD, List.getElem?_map]
    cases A.q.ts[j]? <;> rfl
  have no : ∀ i, ¬ i < (opsOf []).length := fun i hi => absurd hi (Nat.not_lt_zero _)
  refine ⟨⟨fun x hx => (by cases hx), List.nodup_nil, fun i hi => (no i hi).elim, trivial, fun i hi => (no i hi).elim, fun i i' hi => (no i hi).elim⟩, trivial, A.init.1, fun x hx => (by cases hx), fun x hx => (by cases hx), fun i hi => (no i hi).elim, fun j hj => ?_, ?_, fun x hx => (by cases hx), fun x hx => (by cases hx)⟩
  · rw [get]
    exact ⟨⟨Int.le_refl _, by simp⟩, fun i hi => (no i hi).elim, fun _ => ⟨A.init.2 j, fun i hi => (no i hi).elim⟩, fun p hp => by cases hp⟩
  · rw [get, get, get]; rfl
structure RunOk (A : Alg) (R : PRes) (ord : List Lz) (m : Nat) : Prop where
  e : R.e = 0
  gi : GIz (opsOf R.out) ord m
  sq : seqO A.o0 ord
  ft : ∀ x, x ∈ ord → A.Fit (cAt A.q (opAt (opsOf R.out) x.i)) x.f
  tl : ∀ x, x ∈ ord → (opAt (opsOf R.out) x.i).e ≠ -1 → A.Tl (cAt A.q (opAt (opsOf R.out) x.i)) x.f (opAt (opsOf R.out) x.i).r
  th : ∀ i, i < (opsOf R.out).length → 0 ≤ (opAt (opsOf R.out) i).th ∧ (opAt (opsOf R.out) i).th < 3
  lo : ∀ i, i < (opsOf R.out).length → 0 ≤ (opAt (opsOf R.out) i).n ∧ (opAt (opsOf R.out) i).n < (A.q.ts.getD (opAt (opsOf R.out) i).th.toNat []).length
  ct : (opsOf R.out).length ≤ (A.q.ts.getD 0 []).length + (A.q.ts.getD 1 []).length + (A.q.ts.getD 2 []).length
  ev : ∀ x, x ∈ R.out → 0 ≤ x.th ∧ x.th < 3 ∧ 0 ≤ x.call ∧ x.call < (A.q.ts.getD x.th.toNat []).length ∧ 0 ≤ x.st ∧ x.st ≤ m
  et : ∀ x, x ∈ R.out → x.fin = true → ∃ f, A.Tl (callAt A.q x.th.toNat x.call) f x.told
theorem played_lin (A : Alg) (hm : machB A.q = true) (sc : List Int) (hl : sc.length ≤ 6000) (hb : ∀ v, v ∈ sc → 0 ≤ v ∧ v < 3) : ∃ ord, RunOk A (played A.q sc) ord sc.length := by
  have hnb : sc.any (bad A.q) = false := by
    rw [List.any_eq_false]; intro v hv
    have := hb v hv
    unfold bad
    rw [A.three]
    simp; omega
  rw [pl_run hm (by omega) hnb rfl]
  have hl3 : (pinit A.q).ts.length = 3 := by unfold pinit; rw [List.length_map]; exact A.three
  obtain ⟨ord, g, h⟩ := run_core sc 0 (pinit A.q) [] A.g0 hb hl3 (init_core A)
  rw [Nat.zero_add] at h
  refine ⟨ord, rfl, h.gi, h.sq, h.ft, h.tl, h.th, fun i hi => ?_, ?_, h.ev, h.et⟩
  · have ht := h.th i hi
    simp only at hi ht ⊢
    obtain ⟨j, hj⟩ : ∃ j : Nat, (opAt (opsOf (prun A.q sc 0 (pinit A.q)).out) i).th = j := ⟨_, (Int.toNat_of_nonneg ht.1).symm⟩
    have ti := h.ti j (by omega)
    have := ti.lo i hi hj
    have := ti.nx
    rw [hj, Int.toNat_natCast]; omega
  · have h0 := (h.ti 0 (by omega)).nx
    have h1 := (h.ti 1 (by omega)).nx
    have h2 := (h.ti 2 (by omega)).nx
    have := h.ct
    simp only
    omega

end Go.Proofs.YtnnjobmiepnedaaDoor.Nice
