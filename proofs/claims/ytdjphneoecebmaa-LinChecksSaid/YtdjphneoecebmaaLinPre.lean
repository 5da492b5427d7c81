/- What the search has and leaves: plain facts. -/
import Derived.Test.YtdjphneoecebmaaLinSee
namespace Go.Proofs.Ytdjphneoecebmaa.Nice
open Go
set_option linter.unusedVariables false
set_option linter.unusedSimpArgs false
set_option maxRecDepth 100000
set_option maxHeartbeats 4000000

def famS (E : List (Nat × List Ob)) : List (Value × SV × List InB) := E.map fun p => (.int .u64 p.1, .sl 0 0 p.2.length, [.rows 35 1 p.2.length (objF p.2)])
def kidx (E : List (Nat × List Ob)) (m : Nat) : Option Nat := E.findIdx? fun p => p.1 == m
theorem kfind_E (m : Nat) : ∀ E : List (Nat × List Ob), kfind (.int .u64) (.int .u64 (m : Int)) ((famS E).map (·.1)) = some (kidx E m)
  | [] => rfl
  | p :: E => by
    have ih := kfind_E m E
    show kfind _ _ (Value.int .u64 (p.1 : Int) :: (famS E).map (·.1)) = _
    simp only [kfind, Instr.sameNow, if_true, ih, kidx, List.findIdx?_cons]
    by_cases h : p.1 = m
    · subst h; simp
    · have e1 : ((m : Int) == (p.1 : Int)) = false := by simp; omega
      have e2 : (p.1 == m) = false := by simp [h]
      rw [e1, e2]; simp
theorem KF (E : List (Nat × List Ob)) (m : Nat) : KFind Try.prog 46 (.int .u64 (m : Int)) ((famS E).map (·.1)) (kidx E m) := kfind_ok Try.underlying46 rfl (kfind_E m E)
theorem kidx_some {E : List (Nat × List Ob)} {m j : Nat} (h : kidx E m = some j) : ∃ l, E[j]? = some (m, l) := by
  unfold kidx at h
  rw [List.findIdx?_eq_some_iff_getElem] at h
  obtain ⟨hj, hp, _⟩ := h
  simp at hp
  refine ⟨E[j].2, ?_⟩
  rw [List.getElem?_eq_getElem hj, ← hp]
theorem kidx_none {E : List (Nat × List Ob)} {m : Nat} (h : kidx E m = none) : ∀ p, p ∈ E → p.1 ≠ m := by
  unfold kidx at h
  rw [List.findIdx?_eq_none_iff] at h
  intro p hp
  have := h p hp
  simpa using this
theorem famS_at {E : List (Nat × List Ob)} {j m : Nat} {l : List Ob} (h : E[j]? = some (m, l)) : (famS E)[j]? = some (.int .u64 (m : Int), .sl 0 0 l.length, [.rows 35 1 l.length (objF l)]) := by
  unfold famS; rw [List.getElem?_map, h]; rfl
theorem famS_set {E : List (Nat × List Ob)} {j m : Nat} {l : List Ob} : famS (E.set j (m, l)) = (famS E).set j (.int .u64 (m : Int), .sl 0 0 l.length, [.rows 35 1 l.length (objF l)]) := by
  unfold famS; rw [List.map_set]
theorem famS_self {E : List (Nat × List Ob)} {j m : Nat} {l : List Ob} (h : E[j]? = some (m, l)) : (famS E).set j (.int .u64 (m : Int), .sl 0 0 l.length, [.rows 35 1 l.length (objF l)]) = famS E := by
  rw [← famS_set]
  congr 1
  apply List.ext_getElem?
  intro i
  rw [List.getElem?_set]
  split
  · next e => subst e; have := (List.getElem?_eq_some_iff.1 h).1; rw [if_pos this, h]
  · rfl
theorem famS_len (E : List (Nat × List Ob)) : (famS E).length = E.length := by unfold famS; rw [List.length_map]
theorem famS_push {E : List (Nat × List Ob)} {m : Nat} {l : List Ob} (e0 : Value × SV × List InB) : (famS E ++ [e0]).set (famS E).length (.int .u64 (m : Int), .sl 0 0 l.length, [.rows 35 1 l.length (objF l)]) = famS (E ++ [(m, l)]) := by
  rw [List.set_append_right _ _ (Nat.le_refl _), Nat.sub_self]
  unfold famS; rw [List.map_append]; rfl
theorem push_at (E : List (Nat × List Ob)) (e0 : Value × SV × List InB) : (famS E ++ [e0])[(famS E).length]? = some e0 := by
  rw [List.getElem?_append_right (Nat.le_refl _), Nat.sub_self]; rfl
theorem set_at {E : List (Nat × List Ob)} {j m : Nat} {l : List Ob} (h : E[j]? = some (m, l)) (e0 : Value × SV × List InB) : ((famS E).set j e0)[j]? = some e0 := by
  have := (List.getElem?_eq_some_iff.1 h).1
  rw [List.getElem?_set_self (by rw [famS_len]; exact this)]
theorem keys_set {E : List (Nat × List Ob)} {j m : Nat} {l : List Ob} (h : E[j]? = some (m, l)) : KFind Try.prog 46 (.int .u64 (m : Int)) ((famS E).map (·.1)) (kidx E m) := KF E m
def total (E : List (Nat × List Ob)) : Nat := (E.map fun p => p.2.length).sum
def memE (E : List (Nat × List Ob)) (d : Nat) (x : Ob) : Prop := ∃ p, p ∈ E ∧ p.1 = d ∧ x ∈ p.2
def SeenOk (kd : Nat) (E : List (Nat × List Ob)) : Prop := ∀ d x, memE E d x → okind x = kd ∧ osize x ≤ 9
theorem total_push (E : List (Nat × List Ob)) (m : Nat) (o : Ob) : total (E ++ [(m, [o])]) = total E + 1 := by unfold total; simp
theorem total_set : ∀ {E : List (Nat × List Ob)} {j m : Nat} {l : List Ob} (o : Ob), E[j]? = some (m, l) → total (E.set j (m, l ++ [o])) = total E + 1
  | [], j, m, l, o, h => by simp at h
  | p :: E, 0, m, l, o, h => by
    simp at h; subst h
    unfold total; simp; omega
  | p :: E, j + 1, m, l, o, h => by
    have := total_set (E := E) (j := j) o (by simpa using h)
    unfold total at this ⊢
    simp only [List.set_cons_succ, List.map_cons, List.sum_cons] at this ⊢
    omega
theorem total_at : ∀ {E : List (Nat × List Ob)} {j m : Nat} {l : List Ob}, E[j]? = some (m, l) → l.length ≤ total E
  | [], j, m, l, h => by simp at h
  | p :: E, 0, m, l, h => by simp at h; subst h; unfold total; simp
  | p :: E, j + 1, m, l, h => by
    have := total_at (E := E) (j := j) (by simpa using h)
    unfold total at this ⊢
    simp only [List.map_cons, List.sum_cons]; omega
theorem mem_push {E : List (Nat × List Ob)} {m d : Nat} {o x : Ob} (h : memE (E ++ [(m, [o])]) d x) : memE E d x ∨ (d = m ∧ x = o) := by
  obtain ⟨p, hp, h1, h2⟩ := h
  rcases List.mem_append.1 hp with hp | hp
  · exact .inl ⟨p, hp, h1, h2⟩
  · rw [List.mem_singleton.1 hp] at h1 h2
    exact .inr ⟨h1.symm, List.mem_singleton.1 h2⟩
theorem mem_set {E : List (Nat × List Ob)} {m d j : Nat} {l : List Ob} {o x : Ob} (hj : E[j]? = some (m, l)) (h : memE (E.set j (m, l ++ [o])) d x) : memE E d x ∨ (d = m ∧ x = o) := by
  obtain ⟨p, hp, h1, h2⟩ := h
  rcases List.mem_or_eq_of_mem_set hp with hp | hp
  · exact .inl ⟨p, hp, h1, h2⟩
  · subst hp
    rcases List.mem_append.1 h2 with h2 | h2
    · exact .inl ⟨(m, l), List.mem_of_getElem? hj, h1, h2⟩
    · exact .inr ⟨h1.symm, List.mem_singleton.1 h2⟩
/-- What is so where the search begins from a state. -/
structure Pre (L : List Act) (kd m : Nat) (o : Ob) (f : Nat) (E : List (Nat × List Ob)) : Prop where
  hm : m < 2 ^ L.length
  hu : unset L.length m = f
  hk : okind o = kd
  hs : osize o + f ≤ 9
  hok : SeenOk kd E
  ht : total E + T f ≤ 1000000000000
  hv : ∀ d x, memE E d x → d < m ∨ FF L d x = false
/-- What the search tells, and leaves. -/
structure Aft (L : List Act) (kd m : Nat) (o : Ob) (f : Nat) (E : List (Nat × List Ob)) (b : Bool) (E' : List (Nat × List Ob)) : Prop where
  hb : b = FF L m o
  hok : SeenOk kd E'
  ht : total E' ≤ total E + T f
  hn : b = false → ∀ d x, memE E' d x → memE E d x ∨ FF L d x = false
/-- In the middle: the state itself is among those seen, and some acts were tried. -/
structure Mid (L : List Act) (kd m : Nat) (o : Ob) (f : Nat) (E E1 : List (Nat × List Ob)) (n : Nat) : Prop where
  hn : n ≤ L.length
  hok : SeenOk kd E1
  ht : total E1 ≤ total E + 1 + n * Tp f
  hv : ∀ d x, memE E1 d x → memE E d x ∨ (d = m ∧ x = o) ∨ FF L d x = false
  hno : ∀ i, i < n → brn (FF L) L m o i = false
theorem mid0 {L : List Act} {kd m : Nat} {o : Ob} {f : Nat} {E E1 : List (Nat × List Ob)} (hp : Pre L kd m o f E) (ht : total E1 = total E + 1) (hm : ∀ d x, memE E1 d x → memE E d x ∨ (d = m ∧ x = o)) : Mid L kd m o f E E1 0 := by
  refine ⟨Nat.zero_le _, fun d x h => ?_, by omega, fun d x h => ?_, fun i hi => absurd hi (Nat.not_lt_zero _)⟩
  · rcases hm d x h with h | ⟨_, rfl⟩
    · exact hp.hok d x h
    · exact ⟨hp.hk, by have := hp.hs; omega⟩
  · rcases hm d x h with h | h
    · exact .inl h
    · exact .inr (.inl h)
theorem mid_skip {L : List Act} {kd m : Nat} {o : Ob} {f : Nat} {E E1 : List (Nat × List Ob)} {n : Nat} (h : Mid L kd m o f E E1 n) (hn : n < L.length) (hb : brn (FF L) L m o n = false) : Mid L kd m o f E E1 (n + 1) :=
  ⟨hn, h.hok, by have := h.ht; rw [Nat.succ_mul]; omega, h.hv, fun i hi => by by_cases e : i = n; (subst e; exact hb); exact h.hno i (by omega)⟩
theorem pre_next {L : List Act} {kd m : Nat} {o : Ob} {f f' : Nat} {E E1 : List (Nat × List Ob)} {n : Nat} (hL : L.length ≤ 9) (hp : Pre L kd m o f E) (h : Mid L kd m o f E E1 n) (hn : n < L.length) (hb : m.testBit n = false) (hf : f = f' + 1) (hno : FF L m o = false ∨ True) : Pre L kd (m ||| 2 ^ n) (onext o (L.getD n default)).1 f' E1 := by
  have hu := unset_or hn hb
  have hu2 := hp.hu
  have hs := hp.hs
  have ht := hp.ht
  have ht2 := h.ht
  have hT := T_eq f
  subst hf
  refine ⟨or_lt hp.hm hn, by omega, (onext_kind o _).trans hp.hk, by have := onext_size o (L.getD n default); omega, h.hok, ?_, fun d x hm => ?_⟩
  · have hTp : Tp (f' + 1) = T f' := rfl
    rw [hTp] at ht2 hT
    have : n * T f' + T f' ≤ 9 * T f' := by
      rw [← Nat.succ_mul]; exact Nat.mul_le_mul_right _ (by omega)
    omega
  · have hg := or_gt hb
    rcases h.hv d x hm with h1 | ⟨rfl, rfl⟩ | h1
    · rcases hp.hv d x h1 with h2 | h2
      · exact .inl (by omega)
      · exact .inr h2
    · exact .inl hg
    · exact .inr h1
theorem mid_tried {L : List Act} {kd m : Nat} {o : Ob} {f f' : Nat} {E E1 E2 : List (Nat × List Ob)} {n : Nat} (h : Mid L kd m o f E E1 n) (hn : n < L.length) (hf : f = f' + 1) {b : Bool} (ha : Aft L kd (m ||| 2 ^ n) (onext o (L.getD n default)).1 f' E1 b E2) (hb : b = false) : Mid L kd m o f E E2 (n + 1) := by
  have hT := ha.ht
  have ht := h.ht
  subst hf
  refine ⟨hn, ha.hok, ?_, fun d x hm => ?_, fun i hi => ?_⟩
  · have hTp : Tp (f' + 1) = T f' := rfl
    rw [hTp] at ht ⊢
    rw [Nat.succ_mul]; omega
  · rcases ha.hn hb d x hm with h1 | h1
    · exact h.hv d x h1
    · exact .inr (.inr h1)
  · by_cases e : i = n
    · subst e
      unfold brn
      rw [← ha.hb, hb]; simp
    · exact h.hno i (by omega)
theorem brn_bit {L : List Act} {m : Nat} {o : Ob} {n : Nat} (h : m.testBit n = true) : brn (FF L) L m o n = false := by unfold brn; rw [h]; rfl
theorem brn_rdy {L : List Act} {m : Nat} {o : Ob} {n : Nat} (h : rdyTo L m n L.length = false) : brn (FF L) L m o n = false := by unfold brn; rw [h]; simp
theorem brn_fit {L : List Act} {m : Nat} {o : Ob} {n : Nat} (h : fits o (L.getD n default) = false) : brn (FF L) L m o n = false := by unfold brn; rw [h]; simp
theorem brn_yes {L : List Act} {m : Nat} {o : Ob} {n : Nat} (h1 : m.testBit n = false) (h2 : rdyTo L m n L.length = true) (h3 : fits o (L.getD n default) = true) (h4 : FF L (m ||| 2 ^ n) (onext o (L.getD n default)).1 = true) : brn (FF L) L m o n = true := by unfold brn; rw [h1, h2, h3, h4]; rfl
theorem aft_no {L : List Act} {kd m : Nat} {o : Ob} {f : Nat} {E E1 : List (Nat × List Ob)} (hL : L.length ≤ 9) (hall : allTo L m L.length = false) (h : Mid L kd m o f E E1 L.length) : Aft L kd m o f E false E1 := by
  have hF := FF_no hall (fun i hi => h.hno i hi)
  refine ⟨hF.symm, h.hok, ?_, fun _ d x hm => ?_⟩
  · have := h.ht; have hT := T_eq f
    have : L.length * Tp f ≤ 9 * Tp f := Nat.mul_le_mul_right _ hL
    omega
  · rcases h.hv d x hm with h1 | ⟨rfl, rfl⟩ | h1
    · exact .inl h1
    · exact .inr hF
    · exact .inr h1
theorem aft_yes {L : List Act} {kd m : Nat} {o : Ob} {f f' : Nat} {E E1 E2 : List (Nat × List Ob)} {n : Nat} (hL : L.length ≤ 9) (h : Mid L kd m o f E E1 n) (hn : n < L.length) (hf : f = f' + 1) {b : Bool} (ha : Aft L kd (m ||| 2 ^ n) (onext o (L.getD n default)).1 f' E1 b E2) (hb : b = true) (h1 : m.testBit n = false) (h2 : rdyTo L m n L.length = true) (h3 : fits o (L.getD n default) = true) : Aft L kd m o f E true E2 := by
  have hF := FF_br hn (brn_yes h1 h2 h3 (ha.hb.symm.trans hb))
  refine ⟨hF.symm, ha.hok, ?_, fun h => by cases h⟩
  have hT := ha.ht; have ht := h.ht; have hT2 := T_eq f
  subst hf
  have hTp : Tp (f' + 1) = T f' := rfl
  rw [hTp] at ht hT2
  have : n * T f' + T f' ≤ 9 * T f' := by
    rw [← Nat.succ_mul]; exact Nat.mul_le_mul_right _ (by omega)
  omega
theorem aft_seen {L : List Act} {kd m : Nat} {o : Ob} {f : Nat} {E : List (Nat × List Ob)} {j : Nat} {l : List Ob} (hp : Pre L kd m o f E) (hj : E[j]? = some (m, l)) (h : l.any (osame o) = true) : Aft L kd m o f E false E := by
  rw [List.any_eq_true] at h
  obtain ⟨x, hx, hs⟩ := h
  have hm : memE E m x := ⟨(m, l), List.mem_of_getElem? hj, rfl, hx⟩
  have e := osame_eq (hp.hk.trans (hp.hok m x hm).1.symm) hs
  subst e
  rcases hp.hv m o hm with h1 | h1
  · exact absurd h1 (Nat.lt_irrefl _)
  · exact ⟨h1.symm, hp.hok, Nat.le_add_right _ _, fun _ d x hm => .inl hm⟩
theorem aft_all {L : List Act} {kd m : Nat} {o : Ob} {f : Nat} {E : List (Nat × List Ob)} (hp : Pre L kd m o f E) (h : allTo L m L.length = true) : Aft L kd m o f E true E := ⟨(FF_all h).symm, hp.hok, Nat.le_add_right _ _, fun h => by cases h⟩
theorem f_pos {L : List Act} {kd m : Nat} {o : Ob} {f : Nat} {E : List (Nat × List Ob)} {n : Nat} (hp : Pre L kd m o f E) (hn : n < L.length) (hb : m.testBit n = false) : ∃ f', f = f' + 1 := by
  have := unset_or hn hb; have := hp.hu
  exact ⟨f - 1, by omega⟩

end Go.Proofs.Ytdjphneoecebmaa.Nice
