/- What the search has and leaves: plain facts. -/
import Derived.Test.YtnnjobmiepnedaaDoorZMLin
namespace Go.Proofs.YtnnjobmiepnedaaDoor.Nice.Lin
open Go
set_option linter.unusedVariables false
set_option linter.unusedSimpArgs false
set_option maxRecDepth 100000
set_option maxHeartbeats 4000000

def famS (E : List (Nat × List Ob)) : List (Value × SV × List InB) := E.map fun p => (.int .u64 p.1, .sl 0 0 p.2.length, [.rows 91 1 p.2.length (objF p.2)])
def kidx (E : List (Nat × List Ob)) (m : Nat) : Option Nat := E.findIdx? fun p => p.1 == m
theorem kfind_E (m : Nat) : ∀ E : List (Nat × List Ob), kfind (.int .u64) (.int .u64 (m : Int)) ((famS E).map (·.1)) = some (kidx E m)
  | [] => rfl
  | p :: E => by
    have ih := kfind_E m E
    show kfind _ _ (Value.int .u64 (p.1 : Int) :: (famS E).map (·.1)) = _
    simp only [kfind, Instr.sameNow, if_true, ih, kidx, List.findIdx?_cons]
    by_cases h : p.1 = m
    · subst h; simp
    · have e1 : ((m : Int) == (p.1 : Int)) = false := by simp; omega
      have e2 : (p.1 == m) = false := by simp [h]
      rw [e1, e2]; simp
theorem KF (E : List (Nat × List Ob)) (m : Nat) : KFind Tryd.prog 101 (.int .u64 (m : Int)) ((famS E).map (·.1)) (kidx E m) := kfind_ok Tryd.underlying101 rfl (kfind_E m E)
theorem kidx_some {E : List (Nat × List Ob)} {m j : Nat} (h : kidx E m = some j) : ∃ l, E[j]? = some (m, l) := by
  unfold kidx at h
  rw [List.findIdx?_eq_some_iff_getElem] at h
  obtain ⟨hj, hp, _⟩ := h
  simp at hp
  refine ⟨E[j].2, ?_⟩
  rw [List.getElem?_eq_getElem hj, ← hp]
theorem kidx_none {E : List (Nat × List Ob)} {m : Nat} (h : kidx E m = none) : ∀ p, p ∈ E → p.1 ≠ m := by
  unfold kidx at h
  rw [List.findIdx?_eq_none_iff] at h
  intro p hp
  have := h p hp
  simpa using this
theorem famS_at {E : List (Nat × List Ob)} {j m : Nat} {l : List Ob} (h : E[j]? = some (m, l)) : (famS E)[j]? = some (.int .u64 (m : Int), .sl 0 0 l.length, [.rows 91 1 l.length (objF l)]) := by
  unfold famS; rw [List.getElem?_map, h]; rfl
theorem famS_set {E : List (Nat × List Ob)} {j m : Nat} {l : List Ob} : famS (E.set j (m, l)) = (famS E).set j (.int .u64 (m : Int), .sl 0 0 l.length, [.rows 91 1 l.length (objF l)]) := by
  unfold famS; rw [List.map_set]
theorem famS_self {E : List (Nat × List Ob)} {j m : Nat} {l : List Ob} (h : E[j]? = some (m, l)) : (famS E).set j (.int .u64 (m : Int), .sl 0 0 l.length, [.rows 91 1 l.length (objF l)]) = famS E := by
  rw [← famS_set]
  congr 1
  apply List.ext_getElem?
  intro i
  rw [List.getElem?_set]
  split
  · next e => subst e; have := (List.getElem?_eq_some_iff.1 h).1; rw [if_pos this, h]
  · rfl
theorem famS_len (E : List (Nat × List Ob)) : (famS E).length = E.length := by unfold famS; rw [List.length_map]
theorem famS_push {E : List (Nat × List Ob)} {m : Nat} {l : List Ob} (e0 : Value × SV × List InB) : (famS E ++ [e0]).set (famS E).length (.int .u64 (m : Int), .sl 0 0 l.length, [.rows 91 1 l.length (objF l)]) = famS (E ++ [(m, l)]) := by
  rw [List.set_append_right _ _ (Nat.le_refl _), Nat.sub_self]
  unfold famS; rw [List.map_append]; rfl
theorem push_at (E : List (Nat × List Ob)) (e0 : Value × SV × List InB) : (famS E ++ [e0])[(famS E).length]? = some e0 := by
  rw [List.getElem?_append_right (Nat.le_refl _), Nat.sub_self]; rfl
theorem set_at {E : List (Nat × List Ob)} {j m : Nat} {l : List Ob} (h : E[j]? = some (m, l)) (e0 : Value × SV × List InB) : ((famS E).set j e0)[j]? = some e0 := by
  have := (List.getElem?_eq_some_iff.1 h).1
  rw [List.getElem?_set_self (by rw [famS_len]; exact this)]
theorem keys_set {E : List (Nat × List Ob)} {j m : Nat} {l : List Ob} (h : E[j]? = some (m, l)) : KFind Tryd.prog 101 (.int .u64 (m : Int)) ((famS E).map (·.1)) (kidx E m) := KF E m
def total (E : List (Nat × List Ob)) : Nat := (E.map fun p => p.2.length).sum
def memE (E : List (Nat × List Ob)) (d : Nat) (x : Ob) : Prop := ∃ p, p ∈ E ∧ p.1 = d ∧ x ∈ p.2
def SeenOk (kd : Nat) (E : List (Nat × List Ob)) : Prop := ∀ d x, memE E d x → okind x = kd ∧ osize x ≤ 9
theorem total_push (E : List (Nat × List Ob)) (m : Nat) (o : Ob) : total (E ++ [(m, [o])]) = total E + 1 := by unfold total; simp
theorem total_set : ∀ {E : List (Nat × List Ob)} {j m : Nat} {l : List Ob} (o : Ob), E[j]? = some (m, l) → total (E.set j (m, l ++ [o])) = total E + 1
  | [], j, m, l, o, h => by simp at h
  | p :: E, 0, m, l, o, h => by
    simp at h; subst h
    unfold total; simp; omega
  | p :: E, j + 1, m, l, o, h => by
    have := total_set (E := E) (j := j) o (by simpa using h)
    unfold total at this ⊢
    simp only [List.set_cons_succ, List.map_cons, List.sum_cons] at this ⊢
    omega
theorem total_at : ∀ {E : List (Nat × List Ob)} {j m : Nat} {l : List Ob}, E[j]? = some (m, l) → l.length ≤ total E
  | [], j, m, l, h => by simp at h
  | p :: E, 0, m, l, h => by simp at h; subst h; unfold total; simp
  | p :: E, j + 1, m, l, h => by
    have := total_at (E := E) (j := j) (by simpa using h)
    unfold total at this ⊢
    simp only [List.map_cons, List.sum_cons]; omega
theorem mem_push {E : List (Nat × List Ob)} {m d : Nat} {o x : Ob} (h : memE (E ++ [(m, [o])]) d x) : memE E d x ∨ (d = m ∧ x = o) := by
  obtain ⟨p, hp, h1, h2⟩ := h
  rcases List.mem_append.1 hp with hp | hp
  · exact .inl ⟨p, hp, h1, h2⟩
  · rw [List.mem_singleton.1 hp] at h1 h2
    exact .inr ⟨h1.symm, List.mem_singleton.1 h2⟩
theorem mem_set {E : List (Nat × List Ob)} {m d j : Nat} {l : List Ob} {o x : Ob} (hj : E[j]? = some (m, l)) (h : memE (E.set j (m, l ++ [o])) d x) : memE E d x ∨ (d = m ∧ x = o) := by
  obtain ⟨p, hp, h1, h2⟩ := h
  rcases List.mem_or_eq_of_mem_set hp with hp | hp
  · exact .inl ⟨p, hp, h1, h2⟩
  · subst hp
    rcases List.mem_append.1 h2 with h2 | h2
    · exact .inl ⟨(m, l), List.mem_of_getElem? hj, h1, h2⟩
    · exact .inr ⟨h1.symm, List.mem_singleton.1 h2⟩
/-- What is so where the search begins from a state. -/
structure Pre (L : List Act) (kd m : Nat) (o : Ob) (f : Nat) (E : List (Nat × List Ob)) : Prop where
  hm : m < 2 ^ L.length
  hu : unset L.length m = f
  hk : okind o = kd
  hs : osize o + f ≤ 9
  hok : SeenOk kd E
  ht : total E + T f ≤ 1000000000000
  hv : ∀ d x, memE E d x → d < m ∨ FF L d x = false
/-- What the search tells, and leaves. -/
structure Aft (L : List Act) (kd m : Nat) (o : Ob) (f : Nat) (E : List (Nat × List Ob)) (b : Bool) (E' : List (Nat × List Ob)) : Prop where
  hb : b = FF L m o
  hok : SeenOk kd E'
  ht : total E' ≤ total E + T f
  hn : b = false → ∀ d x, memE E' d x → memE E d x ∨ FF L d x = false
/-- In the middle: the state itself is among those seen, and some acts were tried. -/
structure Mid (L : List Act) (kd m : Nat) (o : Ob) (f : Nat) (E E1 : List (Nat × List Ob)) (n : Nat) : Prop where
  hn : n ≤ L.length
  hok : SeenOk kd E1
  ht : total E1 ≤ total E + 1 + n * Tp f
  hv : ∀ d x, memE E1 d x → memE E d x ∨ (d = m ∧ x = o) ∨ FF L d x = false
  hno : ∀ i, i < n → brn (FF L) L m o i = false
theorem mid0 {L : List Act} {kd m : Nat} {o : Ob} {f : Nat} {E E1 : List (Nat × List Ob)} (hp : Pre L kd m o f E) (ht : total E1 = total E + 1) (hm : ∀ d x, memE E1 d x → memE E d x ∨ (d = m ∧ x = o)) : Mid L kd m o f E E1 0 := by
  refine ⟨Nat.zero_le _, fun d x h => ?_, by omega, fun d x h => ?_, fun i hi => absurd hi (Nat.not_lt_zero _)⟩
  · rcases hm d x h with h | ⟨_, rfl⟩
    · exact hp.hok d x h
    · exact ⟨hp.hk, by have := hp.hs; omega⟩
  · rcases hm d x h with h | h
    · exact .inl h
    · exact .inr (.inl h)
theorem mid_skip {L : List Act} {kd m : Nat} {o : Ob} {f : Nat} {E E1 : List (Nat × List Ob)} {n : Nat} (h : Mid L kd m o f E E1 n) (hn : n < L.length) (hb : brn (FF L) L m o n = false) : Mid L kd m o f E E1 (n + 1) :=
  ⟨hn, h.hok, by have := h.ht; rw [Nat.succ_mul]; omega, h.hv, fun i hi => by by_cases e : i = n; (subst e; exact hb); exact h.hno i (by omega)⟩
theorem pre_next {L : List Act} {kd m : Nat} {o : Ob} {f f' : Nat} {E E1 : List (Nat × List Ob)} {n : Nat} (hL : L.length ≤ 9) (hp : Pre L kd m o f E) (h : Mid L kd m o f E E1 n) (hn : n < L.length) (hb : m.testBit n = false) (hf : f = f' + 1) (hno : FF L m o = false ∨ True) : Pre L kd (m ||| 2 ^ n) (onext o (L.getD n default)).1 f' E1 := by
  have hu := unset_or hn hb
  have hu2 := hp.hu
  have hs := hp.hs
  have ht := hp.ht
  have ht2 := h.ht
  have hT := T_eq f
  subst hf
  refine ⟨or_lt hp.hm hn, by omega, (onext_kind o _).trans hp.hk, by have := onext_size o (L.getD n default); omega, h.hok, ?_, fun d x hm => ?_⟩
  · have hTp : Tp (f' + 1) = T f' := rfl
    rw [hTp] at ht2 hT
    have : n * T f' + T f' ≤ 9 * T f' := by
      rw [← Nat.succ_mul]; exact Nat.mul_le_mul_right _ (by omega)
    omega
  · have hg := or_gt hb
    rcases h.hv d x hm with h1 | ⟨rfl, rfl⟩ | h1
    · rcases hp.hv d x h1 with h2 | h2
      · exact .inl (by omega)
      · exact .inr h2
    · exact .inl hg
    · exact .inr h1
theorem mid_tried {L : List Act} {kd m : Nat} {o : Ob} {f f' : Nat} {E E1 E2 : List (Nat × List Ob)} {n : Nat} (h : Mid L kd m o f E E1 n) (hn : n < L.length) (hf : f = f' + 1) {b : Bool} (ha : Aft L kd (m ||| 2 ^ n) (onext o (L.getD n default)).1 f' E1 b E2) (hb : b = false) : Mid L kd m o f E E2 (n + 1) := by
  have hT := ha.ht
  have ht := h.ht
  subst hf
  refine ⟨hn, ha.hok, ?_, fun d x hm => ?_, fun i hi => ?_⟩
  · have hTp : Tp (f' + 1) = T f' := rfl
    rw [hTp] at ht ⊢
    rw [Nat.succ_mul]; omega
  · rcases ha.hn hb d x hm with h1 | h1
    · exact h.hv d x h1
    · exact .inr (.inr h1)
  · by_cases e : i = n
    · subst e
      unfold brn
      rw [← ha.hb, hb]; simp
    · exact h.hno i (by omega)
theorem brn_bit {L : List Act} {m : Nat} {o : Ob} {n : Nat} (h : m.testBit n = true) : brn (FF L) L m o n = false := by unfold brn; rw [h]; rfl
theorem brn_rdy {L : List Act} {m : Nat} {o : Ob} {n : Nat} (h : rdyTo L m n L.length = false) : brn (FF L) L m o n = false := by unfold brn; rw [h]; simp
theorem brn_fit {L : List Act} {m : Nat} {o : Ob} {n : Nat} (h : fits o (L.getD n default) = false) : brn (FF L) L m o n = false := by unfold brn; rw [h]; simp
theorem brn_yes {L : List Act} {m : Nat} {o : Ob} {n : Nat} (h1 : m.testBit n = false) (h2 : rdyTo L m n L.length = true) (h3 : fits o (L.getD n default) = true) (h4 : FF L (m ||| 2 ^ n) (onext o (L.getD n default)).1 = true) : brn (FF L) L m o n = true := by unfold brn; rw [h1, h2, h3, h4]; rfl
theorem aft_no {L : List Act} {kd m : Nat} {o : Ob} {f : Nat} {E E1 : List (Nat × List Ob)} (hL : L.length ≤ 9) (hall : allTo L m L.length = false) (h : Mid L kd m o f E E1 L.length) : Aft L kd m o f E false E1 := by
  have hF := FF_no hall (fun i hi => h.hno i hi)
  refine ⟨hF.symm, h.hok, ?_, fun _ d x hm => ?_⟩
  · have := h.ht; have hT := T_eq f
    have : L.length * Tp f ≤ 9 * Tp f := Nat.mul_le_mul_right _ hL
    omega
  · rcases h.hv d x hm with h1 | ⟨rfl, rfl⟩ | h1
    · exact .inl h1
    · exact .inr hF
    · exact .inr h1
theorem aft_yes {L : List Act} {kd m : Nat} {o : Ob} {f f' : Nat} {E E1 E2 : List (Nat × List Ob)} {n : Nat} (hL : L.length ≤ 9) (h : Mid L kd m o f E E1 n) (hn : n < L.length) (hf : f = f' + 1) {b : Bool} (ha : Aft L kd (m ||| 2 ^ n) (onext o (L.getD n default)).1 f' E1 b E2) (hb : b = true) (h1 : m.testBit n = false) (h2 : rdyTo L m n L.length = true) (h3 : fits o (L.getD n default) = true) : Aft L kd m o f E true E2 := by
  have hF := FF_br hn (brn_yes h1 h2 h3 (ha.hb.symm.trans hb))
  refine ⟨hF.symm, ha.hok, ?_, fun h => by cases h⟩
  have hT := ha.ht; have ht := h.ht; have hT2 := T_eq f
  subst hf
  have hTp : Tp (f' + 1) = T f' := rfl
  rw [hTp] at ht hT2
  have : n * T f' + T f' ≤ 9 * T f' := by
    rw [← Nat.succ_mul]; exact Nat.mul_le_mul_right _ (by omega)
  omega
theorem aft_seen {L : List Act} {kd m : Nat} {o : Ob} {f : Nat} {E : List (Nat × List Ob)} {j : Nat} {l : List Ob} (hp : Pre L kd m o f E) (hj : E[j]? = some (m, l)) (h : l.any (osame o) = true) : Aft L kd m o f E false E := by
  rw [List.any_eq_true] at h
  obtain ⟨x, hx, hs⟩ := h
  have hm : memE E m x := ⟨(m, l), List.mem_of_getElem? hj, rfl, hx⟩
  have e := osame_eq (hp.hk.trans (hp.hok m x hm).1.symm) hs
  subst e
  rcases hp.hv m o hm with h1 | h1
  · exact absurd h1 (Nat.lt_irrefl _)
  · exact ⟨h1.symm, hp.hok, Nat.le_add_right _ _, fun _ d x hm => .inl hm⟩
theorem aft_all {L : List Act} {kd m : Nat} {o : Ob} {f : Nat} {E : List (Nat × List Ob)} (hp : Pre L kd m o f E) (h : allTo L m L.length = true) : Aft L kd m o f E true E := ⟨(FF_all h).symm, hp.hok, Nat.le_add_right _ _, fun h => by cases h⟩
theorem f_pos {L : List Act} {kd m : Nat} {o : Ob} {f : Nat} {E : List (Nat × List Ob)} {n : Nat} (hp : Pre L kd m o f E) (hn : n < L.length) (hb : m.testBit n = false) : ∃ f', f = f' + 1 := by
  have := unset_or hn hb; have := hp.hu
  exact ⟨f - 1, by omega⟩

end Go.Proofs.YtnnjobmiepnedaaDoor.Nice.Lin

/- The search: seeker.found. -/
namespace Go.Proofs.YtnnjobmiepnedaaDoor.Nice.Lin
open Go
set_option linter.unusedVariables false
set_option linter.unusedSimpArgs false
set_option maxRecDepth 100000
set_option maxHeartbeats 4000000

theorem found_tail (L : List Act) (hL : L.length ≤ 9) (kd f : Nat) (hIH : ∀ f', f = f' + 1 → ∀ (m : Nat) (o : Ob) (Z : List Nat) (E : List (Nat × List Ob)), Pre L kd m o f' E → Spec Tryd.prog G0 47 [.ptr 0 0 0, SVu m, objV o] [seekB L, .fam Z ⟨famS E, []⟩] (fun r ho => ∃ b Z' E', r = SV.b b ∧ ho = [some (seekB L), some (.fam Z' ⟨famS E', []⟩)] ∧ Aft L kd m o f' E b E')) (m : Nat) (o : Ob) (E : List (Nat × List Ob)) (hp : Pre L kd m o f E) (Z0 : List Nat) (E0 : List (Nat × List Ob)) (hall : allTo L m L.length = false) (hM0 : Mid L kd m o f E E0 0) : W ⟨Tryd.prog, 110, 2, G0⟩ (codeAt [1, 1, 1, 1, 1, 1] (Tryd.f47.body.getD .skip)) (outQ ⟨Tryd.prog, 110, 2, G0⟩ Tryd.f47 (fun r ho => ∃ b Z' E', r = SV.b b ∧ ho = [some (seekB L), some (.fam Z' ⟨famS E', []⟩)] ∧ Aft L kd m o f E b E')) ⟨tOf [(0, .ptr 0 0 0), (1, SVu m), (2, objV o)], hOf [some (seekB L), some (.fam Z0 ⟨famS E0, []⟩)], 2⟩ := by
  have hm9 : m < 512 := Nat.lt_of_lt_of_le hp.hm (by exact Nat.pow_le_pow_right (n := 2) (by omega) hL)
  refine W_seq ?_
  refine r1 ?_
  refine s1 63 2 1 rfl rfl rfl rfl rfl rfl trivial ?_
  refine s1 64 10 2 rfl rfl rfl rfl rfl rfl trivial ?_
  refine s1 65 18 3 rfl rfl rfl rfl rfl rfl trivial ?_
  refine s1 66 26 4 rfl rfl rfl rfl rfl rfl (by first | trivial | omega) ?_
  refine s1 67 34 5 rfl rfl rfl rfl rfl rfl (by first | trivial | omega) ?_
  refine s1 68 42 6 rfl rfl rfl rfl rfl rfl trivial ?_
  refine e1 50 rfl ?_
  refine keep [0, 1, 2, 66, 67, 68] rfl ?_
  refine W_block ?_
  refine loop (α := Nat × (List Nat) × (List (Nat × List Ob))) 2 (fun z => [(0, .ptr 0 0 0), (1, SVu m), (2, objV o), (66, actsV L), (67, SV.i L.length), (68, SV.i (z.1))]) (fun z => [some (seekB L), some (.fam (z.2.1) ⟨famS (z.2.2), []⟩)]) (fun z => Mid L kd m o f E (z.2.2) (z.1)) (fun z => L.length - (z.1)) (((0, Z0, E0) : Nat × (List Nat) × (List (Nat × List Ob)))) [0, 1] (fun _ => rfl) (show Mid L kd m o f E (E0) (0) from hM0) rfl ⟨rfl, rfl, rfl, rfl, rfl, rfl, trivial⟩ ⟨rfl, rfl, trivial⟩ (fun z hx => ?_)
  obtain ⟨n, Z, E1⟩ := z
  show W _ _ _ ⟨tOf [(0, .ptr 0 0 0), (1, SVu m), (2, objV o), (66, actsV L), (67, SV.i L.length), (68, SV.i n)], hOf [some (seekB L), some (.fam Z ⟨famS E1, []⟩)], 2⟩
  have hx : Mid L kd m o f E E1 n := hx
  have hM := hx
  have hb := bitv m hm9 n
  have hnn := hM.hn
  refine r1 ?_
  refine s1 69 2 1 rfl rfl rfl rfl rfl rfl (by first | trivial | omega) ?_
  refine e1 10 rfl ?_
  refine keep [0, 1, 2, 66, 67, 68, 69] rfl ?_
  refine W_seq ?_
  refine q1 rfl (fun hc13 => ?_) (fun hc13 => ?_)
  · skip
    try simp only [cs, ne_eq] at hc13
    refine W_skip ?_
    refine tn ?_
    refine W_seq ?_
    refine W_block ?_
    refine r1 ?_
    refine s1 70 10 1 rfl rfl rfl rfl rfl rfl trivial ?_
    refine s1 71 18 2 rfl rfl rfl rfl rfl rfl (by first | trivial | omega) ?_
    refine s1 72 26 3 rfl rfl rfl rfl rfl rfl (by first | trivial | omega) ?_
    refine s1 11 34 4 rfl rfl rfl rfl rfl rfl trivial ?_
    refine s1 10 42 5 rfl rfl rfl rfl rfl rfl trivial ?_
    refine s0 50 6 rfl rfl rfl rfl rfl (by first | trivial | omega) ?_
    refine e1 58 rfl ?_
    refine keep [0, 1, 2, 10, 11, 66, 67, 68] rfl ?_
    refine W_seq ?_
    refine r1 ?_
    refine s1 73 58 1 rfl rfl rfl rfl rfl rfl trivial ?_
    refine s1 74 66 2 rfl rfl rfl rfl rfl rfl trivial ?_
    refine s1 75 74 3 rfl rfl rfl rfl rfl rfl (by first | trivial | omega) ?_
    refine s1 76 82 4 rfl rfl rfl rfl rfl rfl (by first | trivial | omega) ?_
    refine s1 77 90 5 rfl rfl rfl rfl rfl rfl (by first | trivial | omega) ?_
    refine val 77 (SV.b (m.testBit n)) rfl (by show SV.b (bits .and .u64 ((m : Int).fdiv (2 ^ (min ((n : Int)).toNat 64))) 1 == 1) = _; rw [hb (by omega)]; cases m.testBit n <;> rfl) ?_
    refine s1 78 98 6 rfl rfl rfl rfl rfl rfl trivial ?_
    refine ask 78 rfl (fun hg15_78 => ?_) (fun hg15_78 => ?_)
    · skip
      try simp only [cs, ne_eq] at hg15_78
      refine g0 5 false 78 79 7 rfl rfl rfl rfl rfl rfl ?_
      refine g0 5 false 78 80 8 rfl rfl rfl rfl rfl rfl ?_
      refine g0 5 false 78 81 9 rfl rfl rfl rfl rfl rfl ?_
      refine g0 5 false 78 82 10 rfl rfl rfl rfl rfl rfl ?_
      refine g0 5 false 78 83 11 rfl rfl rfl rfl rfl rfl ?_
      refine s1 84 146 12 rfl rfl rfl rfl rfl rfl trivial ?_
      refine e1 154 rfl ?_
      refine keep [0, 1, 2, 10, 11, 66, 67, 68, 84] rfl ?_
      refine q1 rfl (fun hc15 => ?_) (fun hc15 => ?_)
      · skip
        try simp only [cs, ne_eq] at hc15
        refine W_exit ?_
        refine tx ?_
        refine bx ?_
        refine tn ?_
        refine r0 ?_
        refine sA 109 154 1 rfl rfl rfl rfl rfl rfl rfl rfl rfl (by unfold inRange; omega) ?_
        refine s1 68 162 2 rfl rfl rfl rfl rfl rfl trivial ?_
        refine e1 170 rfl ?_
        refine tn ?_
        exact again (((n + 1, Z, E1) : Nat × (List Nat) × (List (Nat × List Ob)))) [0, 1] (show Mid L kd m o f E (E1) (n + 1) from mid_skip hM (by omega) (brn_bit (by first | exact hg15_78 | simpa using hg15_78))) (show L.length - (n + 1) < L.length - n from (by omega)) rfl ⟨rfl, rfl, rfl, rfl, rfl, rfl, trivial⟩ ⟨rfl, rfl, trivial⟩
      exact absurd hc15 (by decide)
    try simp only [cs, ne_eq] at hg15_78
    refine g1 5 false 78 79 7 rfl rfl rfl rfl rfl ?_
    refine s1 79 106 7 rfl rfl rfl rfl rfl rfl trivial ?_
    refine g1 5 false 78 80 8 rfl rfl rfl rfl rfl ?_
    refine s1 80 114 8 rfl rfl rfl rfl rfl rfl trivial ?_
    refine g1 5 false 78 81 9 rfl rfl rfl rfl rfl ?_
    refine s1 81 122 9 rfl rfl rfl rfl rfl rfl trivial ?_
    refine g1 5 false 78 82 10 rfl rfl rfl rfl rfl ?_
    refine c1 (ready_any L hL m n hm9 (by omega) Z (famS E1)) [0, 1] [0, 1] 82 130 10 rfl rfl rfl rfl rfl rfl rfl rfl Tryd.func71 rfl rfl rfl rfl ⟨rfl, rfl, trivial⟩ rfl rfl ?_
    refine g1 5 false 78 83 11 rfl rfl rfl rfl rfl ?_
    refine s1 83 138 11 rfl rfl rfl rfl rfl rfl trivial ?_
    refine s1 84 146 12 rfl rfl rfl rfl rfl rfl trivial ?_
    refine e1 154 rfl ?_
    refine keep [0, 1, 2, 10, 11, 66, 67, 68, 84] rfl ?_
    refine q1 rfl (fun hc15 => ?_) (fun hc15 => ?_)
    · skip
      try simp only [cs, ne_eq] at hc15
      refine W_exit ?_
      refine tx ?_
      refine bx ?_
      refine tn ?_
      refine r0 ?_
      refine sA 109 154 1 rfl rfl rfl rfl rfl rfl rfl rfl rfl (by unfold inRange; omega) ?_
      refine s1 68 162 2 rfl rfl rfl rfl rfl rfl trivial ?_
      refine e1 170 rfl ?_
      refine tn ?_
      exact again (((n + 1, Z, E1) : Nat × (List Nat) × (List (Nat × List Ob)))) [0, 1] (show Mid L kd m o f E (E1) (n + 1) from mid_skip hM (by omega) (brn_rdy (by simpa using hc15))) (show L.length - (n + 1) < L.length - n from (by omega)) rfl ⟨rfl, rfl, rfl, rfl, rfl, rfl, trivial⟩ ⟨rfl, rfl, trivial⟩
    try simp only [cs, ne_eq] at hc15
    refine W_skip ?_
    refine tn ?_
    obtain ⟨f', hf⟩ := f_pos hp (show n < L.length by omega) (by first | exact hg15_78 | simpa using hg15_78)
    refine r1 ?_
    refine s1 86 154 1 rfl rfl rfl rfl rfl rfl trivial ?_
    refine s1 87 162 2 rfl rfl rfl rfl rfl rfl (by first | trivial | omega) ?_
    refine sOk 88 170 3 (next_call (ob := o) (ac := L.getD n default) rfl rfl rfl (by have := hp.hs; omega)) rfl rfl rfl rfl rfl trivial rfl rfl rfl ?_
    refine s1 85 178 4 rfl rfl rfl rfl rfl rfl trivial ?_
    refine s1 89 186 5 rfl rfl rfl rfl rfl rfl trivial ?_
    refine s1 90 194 6 rfl rfl rfl rfl rfl rfl trivial ?_
    refine s1 12 202 7 rfl rfl rfl rfl rfl rfl trivial ?_
    refine s1 13 210 8 rfl rfl rfl rfl rfl rfl trivial ?_
    refine e1 218 rfl ?_
    refine keep [0, 1, 2, 10, 11, 12, 13, 66, 67, 68] rfl ?_
    refine r1 ?_
    refine s1 91 218 1 rfl rfl rfl rfl rfl rfl trivial ?_
    refine s1 92 226 2 rfl rfl rfl rfl rfl rfl (by first | trivial | omega) ?_
    refine s1 93 234 3 rfl rfl rfl rfl rfl rfl (by first | trivial | omega) ?_
    refine s1 94 242 4 rfl rfl rfl rfl rfl rfl trivial ?_
    refine ask 94 rfl (fun hg17_94 => ?_) (fun hg17_94 => ?_)
    · skip
      try simp only [cs, ne_eq] at hg17_94
      refine g0 3 false 94 95 5 rfl rfl rfl rfl rfl rfl ?_
      refine g0 3 false 94 96 6 rfl rfl rfl rfl rfl rfl ?_
      refine g0 3 false 94 97 7 rfl rfl rfl rfl rfl rfl ?_
      refine g0 3 false 94 98 8 rfl rfl rfl rfl rfl rfl ?_
      refine s1 99 282 9 rfl rfl rfl rfl rfl rfl trivial ?_
      refine s1 100 290 10 rfl rfl rfl rfl rfl rfl trivial ?_
      refine g1 9 true 100 101 11 rfl rfl rfl rfl rfl ?_
      refine s1 101 298 11 rfl rfl rfl rfl rfl rfl trivial ?_
      refine g1 9 true 100 102 12 rfl rfl rfl rfl rfl ?_
      refine s1 102 306 12 rfl rfl rfl rfl rfl rfl trivial ?_
      refine g1 9 true 100 103 13 rfl rfl rfl rfl rfl ?_
      refine s1 103 314 13 rfl rfl rfl rfl rfl rfl trivial ?_
      refine g1 9 true 100 104 14 rfl rfl rfl rfl rfl ?_
      refine s1 104 322 14 rfl rfl rfl rfl rfl rfl (by first | trivial | omega) ?_
      refine g1 9 true 100 105 15 rfl rfl rfl rfl rfl ?_
      refine s1 105 330 15 rfl rfl rfl rfl rfl rfl (by first | trivial | omega) ?_
      refine val 105 (SVu (m ||| 2 ^ n)) rfl (by show SV.d (.val (.int .u64 (bits .or .u64 (m : Int) (IntKind.u64.wrap (1 * 2 ^ (min ((n : Int)).toNat 64)))))) = _; rw [orv m hm9 n (by omega)]) ?_
      refine g1 9 true 100 106 16 rfl rfl rfl rfl rfl ?_
      refine s1 106 338 16 rfl rfl rfl rfl rfl rfl trivial ?_
      refine g1 9 true 100 107 17 rfl rfl rfl rfl rfl ?_
      refine cQ (hIH f' hf (m ||| 2 ^ n) (onext o (L.getD n default)).1 Z E1 (pre_next hL hp hM (by omega) (by first | exact hg15_78 | simpa using hg15_78) hf (.inr trivial))) [0, 1] 107 346 17 rfl rfl rfl rfl rfl rfl rfl Tryd.func47 rfl rfl rfl ⟨rfl, rfl, trivial⟩ ?_
      rintro _ _ ⟨b, Z2, E2, rfl, rfl, haf⟩
      refine val 107 (SV.b b) rfl rfl ?_
      refine hval 1 _ rfl (.fam Z2 ⟨famS E2, []⟩) rfl ?_
      refine hval 0 _ rfl (seekB L) rfl ?_
      refine s1 108 354 18 rfl rfl rfl rfl rfl rfl trivial ?_
      refine e1 362 rfl ?_
      refine keep [0, 1, 2, 66, 67, 68, 108] rfl ?_
      refine q1 rfl (fun hc17 => ?_) (fun hc17 => ?_)
      · skip
        try simp only [cs, ne_eq] at hc17
        refine r1 ?_
        refine s1 6 362 1 rfl rfl rfl rfl rfl rfl trivial ?_
        refine e1 370 rfl ?_
        refine keep [6] rfl ?_
        refine W_ret ?_
        refine br ?_
        refine tr ?_
        refine tr ?_
        refine br ?_
        refine tr ?_
        exact out1 6 (SV.b true) (π := [0, 1]) (hout := [some (seekB L), some (.fam Z2 ⟨famS E2, []⟩)]) Tryd.results47 rfl rfl rfl rfl ⟨rfl, rfl, trivial⟩ ⟨true, Z2, E2, rfl, rfl, aft_yes hL hM (by omega) hf haf (by simpa using hc17) (by first | exact hg15_78 | simpa using hg15_78) (by simpa using hc15) (by unfold fits; simp only [Int.toNat_natCast] at hg17_94 ; rw [decide_eq_true hg17_94]; simp)⟩
      try simp only [cs, ne_eq] at hc17
      refine W_skip ?_
      refine bn ?_
      refine tn ?_
      refine r0 ?_
      refine sA 109 362 1 rfl rfl rfl rfl rfl rfl rfl rfl rfl (by unfold inRange; omega) ?_
      refine s1 68 370 2 rfl rfl rfl rfl rfl rfl trivial ?_
      refine e1 378 rfl ?_
      refine tn ?_
      exact again (((n + 1, Z2, E2) : Nat × (List Nat) × (List (Nat × List Ob)))) [0, 1] (show Mid L kd m o f E (E2) (n + 1) from mid_tried hM (by omega) hf haf (by simpa using hc17)) (show L.length - (n + 1) < L.length - n from (by omega)) rfl ⟨rfl, rfl, rfl, rfl, rfl, rfl, trivial⟩ ⟨rfl, rfl, trivial⟩
    try simp only [cs, ne_eq] at hg17_94
    refine g1 3 false 94 95 5 rfl rfl rfl rfl rfl ?_
    refine s1 95 250 5 rfl rfl rfl rfl rfl rfl trivial ?_
    refine g1 3 false 94 96 6 rfl rfl rfl rfl rfl ?_
    refine s1 96 258 6 rfl rfl rfl rfl rfl rfl trivial ?_
    refine g1 3 false 94 97 7 rfl rfl rfl rfl rfl ?_
    refine s1 97 266 7 rfl rfl rfl rfl rfl rfl (by first | trivial | omega) ?_
    refine g1 3 false 94 98 8 rfl rfl rfl rfl rfl ?_
    refine s1 98 274 8 rfl rfl rfl rfl rfl rfl (by first | trivial | omega) ?_
    refine s1 99 282 9 rfl rfl rfl rfl rfl rfl trivial ?_
    refine s1 100 290 10 rfl rfl rfl rfl rfl rfl trivial ?_
    refine ask 100 rfl (fun hg17_100 => ?_) (fun hg17_100 => ?_)
    · skip
      try simp only [cs, ne_eq] at hg17_100
      refine g1 9 true 100 101 11 rfl rfl rfl rfl rfl ?_
      refine s1 101 298 11 rfl rfl rfl rfl rfl rfl trivial ?_
      refine g1 9 true 100 102 12 rfl rfl rfl rfl rfl ?_
      refine s1 102 306 12 rfl rfl rfl rfl rfl rfl trivial ?_
      refine g1 9 true 100 103 13 rfl rfl rfl rfl rfl ?_
      refine s1 103 314 13 rfl rfl rfl rfl rfl rfl trivial ?_
      refine g1 9 true 100 104 14 rfl rfl rfl rfl rfl ?_
      refine s1 104 322 14 rfl rfl rfl rfl rfl rfl (by first | trivial | omega) ?_
      refine g1 9 true 100 105 15 rfl rfl rfl rfl rfl ?_
      refine s1 105 330 15 rfl rfl rfl rfl rfl rfl (by first | trivial | omega) ?_
      refine val 105 (SVu (m ||| 2 ^ n)) rfl (by show SV.d (.val (.int .u64 (bits .or .u64 (m : Int) (IntKind.u64.wrap (1 * 2 ^ (min ((n : Int)).toNat 64)))))) = _; rw [orv m hm9 n (by omega)]) ?_
      refine g1 9 true 100 106 16 rfl rfl rfl rfl rfl ?_
      refine s1 106 338 16 rfl rfl rfl rfl rfl rfl trivial ?_
      refine g1 9 true 100 107 17 rfl rfl rfl rfl rfl ?_
      refine cQ (hIH f' hf (m ||| 2 ^ n) (onext o (L.getD n default)).1 Z E1 (pre_next hL hp hM (by omega) (by first | exact hg15_78 | simpa using hg15_78) hf (.inr trivial))) [0, 1] 107 346 17 rfl rfl rfl rfl rfl rfl rfl Tryd.func47 rfl rfl rfl ⟨rfl, rfl, trivial⟩ ?_
      rintro _ _ ⟨b, Z2, E2, rfl, rfl, haf⟩
      refine val 107 (SV.b b) rfl rfl ?_
      refine hval 1 _ rfl (.fam Z2 ⟨famS E2, []⟩) rfl ?_
      refine hval 0 _ rfl (seekB L) rfl ?_
      refine s1 108 354 18 rfl rfl rfl rfl rfl rfl trivial ?_
      refine e1 362 rfl ?_
      refine keep [0, 1, 2, 66, 67, 68, 108] rfl ?_
      refine q1 rfl (fun hc17 => ?_) (fun hc17 => ?_)
      · skip
        try simp only [cs, ne_eq] at hc17
        refine r1 ?_
        refine s1 6 362 1 rfl rfl rfl rfl rfl rfl trivial ?_
        refine e1 370 rfl ?_
        refine keep [6] rfl ?_
        refine W_ret ?_
        refine br ?_
        refine tr ?_
        refine tr ?_
        refine br ?_
        refine tr ?_
        exact out1 6 (SV.b true) (π := [0, 1]) (hout := [some (seekB L), some (.fam Z2 ⟨famS E2, []⟩)]) Tryd.results47 rfl rfl rfl rfl ⟨rfl, rfl, trivial⟩ ⟨true, Z2, E2, rfl, rfl, aft_yes hL hM (by omega) hf haf (by simpa using hc17) (by first | exact hg15_78 | simpa using hg15_78) (by simpa using hc15) (by unfold fits; simp only [Int.toNat_natCast] at hg17_94 hg17_100; rw [decide_eq_true hg17_100]; simp)⟩
      try simp only [cs, ne_eq] at hc17
      refine W_skip ?_
      refine bn ?_
      refine tn ?_
      refine r0 ?_
      refine sA 109 362 1 rfl rfl rfl rfl rfl rfl rfl rfl rfl (by unfold inRange; omega) ?_
      refine s1 68 370 2 rfl rfl rfl rfl rfl rfl trivial ?_
      refine e1 378 rfl ?_
      refine tn ?_
      exact again (((n + 1, Z2, E2) : Nat × (List Nat) × (List (Nat × List Ob)))) [0, 1] (show Mid L kd m o f E (E2) (n + 1) from mid_tried hM (by omega) hf haf (by simpa using hc17)) (show L.length - (n + 1) < L.length - n from (by omega)) rfl ⟨rfl, rfl, rfl, rfl, rfl, rfl, trivial⟩ ⟨rfl, rfl, trivial⟩
    try simp only [cs, ne_eq] at hg17_100
    refine g0 9 true 100 101 11 rfl rfl rfl rfl rfl rfl ?_
    refine g0 9 true 100 102 12 rfl rfl rfl rfl rfl rfl ?_
    refine g0 9 true 100 103 13 rfl rfl rfl rfl rfl rfl ?_
    refine g0 9 true 100 104 14 rfl rfl rfl rfl rfl rfl ?_
    refine g0 9 true 100 105 15 rfl rfl rfl rfl rfl rfl ?_
    refine g0 9 true 100 106 16 rfl rfl rfl rfl rfl rfl ?_
    refine g0 9 true 100 107 17 rfl rfl rfl rfl rfl rfl ?_
    refine s1 108 354 18 rfl rfl rfl rfl rfl rfl trivial ?_
    refine e1 362 rfl ?_
    refine keep [0, 1, 2, 66, 67, 68, 108] rfl ?_
    refine q1 rfl (fun hc17 => ?_) (fun hc17 => ?_)
    · skip
      exact absurd hc17 (by decide)
    try simp only [cs, ne_eq] at hc17
    refine W_skip ?_
    refine bn ?_
    refine tn ?_
    refine r0 ?_
    refine sA 109 362 1 rfl rfl rfl rfl rfl rfl rfl rfl rfl (by unfold inRange; omega) ?_
    refine s1 68 370 2 rfl rfl rfl rfl rfl rfl trivial ?_
    refine e1 378 rfl ?_
    refine tn ?_
    exact again (((n + 1, Z, E1) : Nat × (List Nat) × (List (Nat × List Ob)))) [0, 1] (show Mid L kd m o f E (E1) (n + 1) from mid_skip hM (by omega) (brn_fit (by unfold fits; simp only [Int.toNat_natCast] at hg17_94 hg17_100; rw [decide_eq_false hg17_94, decide_eq_false hg17_100]; rfl))) (show L.length - (n + 1) < L.length - n from (by omega)) rfl ⟨rfl, rfl, rfl, rfl, rfl, rfl, trivial⟩ ⟨rfl, rfl, trivial⟩
  try simp only [cs, ne_eq] at hc13
  refine W_exit ?_
  refine tx ?_
  refine tx ?_
  refine bx ?_
  refine tn ?_
  refine r1 ?_
  refine s1 6 10 1 rfl rfl rfl rfl rfl rfl trivial ?_
  refine e1 18 rfl ?_
  refine keep [6] rfl ?_
  refine W_ret ?_
  obtain rfl : n = L.length := (by have := hM.hn; omega)
  exact out1 6 (SV.b false) (π := [0, 1]) (hout := [some (seekB L), some (.fam Z ⟨famS E1, []⟩)]) Tryd.results47 rfl rfl rfl rfl ⟨rfl, rfl, trivial⟩ ⟨false, Z, E1, rfl, rfl, aft_no hL hall hM⟩

theorem found_step (L : List Act) (hL : L.length ≤ 9) (kd f : Nat) (hIH : ∀ f', f = f' + 1 → ∀ (m : Nat) (o : Ob) (Z : List Nat) (E : List (Nat × List Ob)), Pre L kd m o f' E → Spec Tryd.prog G0 47 [.ptr 0 0 0, SVu m, objV o] [seekB L, .fam Z ⟨famS E, []⟩] (fun r ho => ∃ b Z' E', r = SV.b b ∧ ho = [some (seekB L), some (.fam Z' ⟨famS E', []⟩)] ∧ Aft L kd m o f' E b E')) (m : Nat) (o : Ob) (E : List (Nat × List Ob)) (hp : Pre L kd m o f E) (Z : List Nat) : Spec Tryd.prog G0 47 [.ptr 0 0 0, SVu m, objV o] [seekB L, .fam Z ⟨famS E, []⟩] (fun r ho => ∃ b Z' E', r = SV.b b ∧ ho = [some (seekB L), some (.fam Z' ⟨famS E', []⟩)] ∧ Aft L kd m o f E b E') := by
  have hm9 : m < 512 := Nat.lt_of_lt_of_le hp.hm (by exact Nat.pow_le_pow_right (n := 2) (by omega) hL)
  refine start 110 2 Tryd.func47 rfl rfl rfl rfl ?_
  refine r1 ?_
  refine s1 6 2 1 rfl rfl rfl rfl rfl rfl trivial ?_
  refine e1 10 rfl ?_
  refine keep [0, 1, 2] rfl ?_
  refine r1 ?_
  refine s1 7 10 1 rfl rfl rfl rfl rfl rfl trivial ?_
  refine e1 18 rfl ?_
  refine keep [0, 1, 2, 7] rfl ?_
  refine W_seq ?_
  refine r1 ?_
  refine s1 14 18 1 rfl rfl rfl rfl rfl rfl trivial ?_
  refine s1 15 26 2 rfl rfl rfl rfl rfl rfl trivial ?_
  refine s1 16 34 3 rfl rfl rfl rfl rfl rfl trivial ?_
  refine s1 17 42 4 rfl rfl rfl rfl rfl rfl (by first | trivial | omega) ?_
  refine s1 18 50 5 rfl rfl rfl rfl rfl rfl (by first | trivial | omega) ?_
  refine s1 19 58 6 rfl rfl rfl rfl rfl rfl trivial ?_
  refine e1 66 rfl ?_
  refine keep [0, 1, 2, 7, 17, 18, 19] rfl ?_
  refine W_block ?_
  refine loop (α := Nat) 2 (fun n => [(0, .ptr 0 0 0), (1, SVu m), (2, objV o), (7, SV.b (allTo L m (n))), (17, actsV L), (18, SV.i L.length), (19, SV.i (n))]) (fun n => [some (seekB L), some (.fam Z ⟨famS E, []⟩)]) (fun n => (n) ≤ L.length) (fun n => L.length - (n)) (((0) : Nat)) [0, 1] (fun _ => rfl) (show (0) ≤ L.length from (Nat.zero_le _)) rfl ⟨rfl, rfl, rfl, rfl, rfl, rfl, rfl, trivial⟩ ⟨rfl, rfl, trivial⟩ (fun n hx => ?_)
  show W _ _ _ ⟨tOf [(0, .ptr 0 0 0), (1, SVu m), (2, objV o), (7, SV.b (allTo L m n)), (17, actsV L), (18, SV.i L.length), (19, SV.i n)], hOf [some (seekB L), some (.fam Z ⟨famS E, []⟩)], 2⟩
  have hx : n ≤ L.length := hx
  have hb := bitv m hm9 n
  refine r1 ?_
  refine s1 20 2 1 rfl rfl rfl rfl rfl rfl (by first | trivial | omega) ?_
  refine e1 10 rfl ?_
  refine keep [0, 1, 2, 7, 17, 18, 19, 20] rfl ?_
  refine W_seq ?_
  refine q1 rfl (fun hc3 => ?_) (fun hc3 => ?_)
  · skip
    try simp only [cs, ne_eq] at hc3
    refine W_skip ?_
    refine tn ?_
    refine W_seq ?_
    refine W_block ?_
    refine r1 ?_
    refine s1 21 10 1 rfl rfl rfl rfl rfl rfl trivial ?_
    refine s1 22 18 2 rfl rfl rfl rfl rfl rfl (by first | trivial | omega) ?_
    refine s1 23 26 3 rfl rfl rfl rfl rfl rfl (by first | trivial | omega) ?_
    refine s1 9 34 4 rfl rfl rfl rfl rfl rfl trivial ?_
    refine s1 8 42 5 rfl rfl rfl rfl rfl rfl trivial ?_
    refine s0 50 6 rfl rfl rfl rfl rfl (by first | trivial | omega) ?_
    refine e1 58 rfl ?_
    refine keep [0, 1, 2, 7, 8, 9, 17, 18, 19] rfl ?_
    refine r0 ?_
    refine s1 24 58 1 rfl rfl rfl rfl rfl rfl trivial ?_
    refine s1 25 66 2 rfl rfl rfl rfl rfl rfl trivial ?_
    refine ask 25 rfl (fun hg5_25 => ?_) (fun hg5_25 => ?_)
    · skip
      try simp only [cs, ne_eq] at hg5_25
      refine g1 1 true 25 26 3 rfl rfl rfl rfl rfl ?_
      refine s1 26 74 3 rfl rfl rfl rfl rfl rfl trivial ?_
      refine g1 1 true 25 27 4 rfl rfl rfl rfl rfl ?_
      refine s1 27 82 4 rfl rfl rfl rfl rfl rfl (by first | trivial | omega) ?_
      refine g1 1 true 25 28 5 rfl rfl rfl rfl rfl ?_
      refine s1 28 90 5 rfl rfl rfl rfl rfl rfl (by first | trivial | omega) ?_
      refine g1 1 true 25 29 6 rfl rfl rfl rfl rfl ?_
      refine s1 29 98 6 rfl rfl rfl rfl rfl rfl trivial ?_
      refine ask 29 rfl (fun hg5_29 => ?_) (fun hg5_29 => ?_)
      · skip
        try simp only [cs, ne_eq] at hg5_29
        refine g0 5 false 29 30 7 rfl rfl rfl rfl rfl rfl ?_
        refine g0 5 false 29 31 8 rfl rfl rfl rfl rfl rfl ?_
        refine g0 5 false 29 32 9 rfl rfl rfl rfl rfl rfl ?_
        refine g0 5 false 29 33 10 rfl rfl rfl rfl rfl rfl ?_
        refine g0 5 false 29 34 11 rfl rfl rfl rfl rfl rfl ?_
        refine g1 1 true 25 35 12 rfl rfl rfl rfl rfl ?_
        refine s1 35 146 12 rfl rfl rfl rfl rfl rfl trivial ?_
        refine s1 36 154 13 rfl rfl rfl rfl rfl rfl trivial ?_
        refine s1 7 162 14 rfl rfl rfl rfl rfl rfl trivial ?_
        refine e1 170 rfl ?_
        refine bn ?_
        refine tn ?_
        refine r0 ?_
        refine sA 37 170 1 rfl rfl rfl rfl rfl rfl rfl rfl rfl (by unfold inRange; omega) ?_
        refine s1 19 178 2 rfl rfl rfl rfl rfl rfl trivial ?_
        refine e1 186 rfl ?_
        refine tn ?_
        exact again ((n + 1 : Nat)) [0, 1] (show (n + 1) ≤ L.length from (by omega)) (show L.length - (n + 1) < L.length - n from (by omega)) rfl ⟨rfl, rfl, rfl, (by show SV.b _ = SV.b _; rw [allTo_succ]; first | (rw [hg5_25]; rfl) | (simp only [Int.toNat_natCast] at hg5_29; rw [hg5_25, decide_eq_true hg5_29]; rfl) | (simp only [Int.toNat_natCast] at hg5_29; rw [hg5_25, decide_eq_false hg5_29]; simp; done)), rfl, rfl, rfl, trivial⟩ ⟨rfl, rfl, trivial⟩
      try simp only [cs, ne_eq] at hg5_29
      refine g1 5 false 29 30 7 rfl rfl rfl rfl rfl ?_
      refine s1 30 106 7 rfl rfl rfl rfl rfl rfl trivial ?_
      refine g1 5 false 29 31 8 rfl rfl rfl rfl rfl ?_
      refine s1 31 114 8 rfl rfl rfl rfl rfl rfl trivial ?_
      refine g1 5 false 29 32 9 rfl rfl rfl rfl rfl ?_
      refine s1 32 122 9 rfl rfl rfl rfl rfl rfl (by first | trivial | omega) ?_
      refine g1 5 false 29 33 10 rfl rfl rfl rfl rfl ?_
      refine s1 33 130 10 rfl rfl rfl rfl rfl rfl (by first | trivial | omega) ?_
      refine g1 5 false 29 34 11 rfl rfl rfl rfl rfl ?_
      refine s1 34 138 11 rfl rfl rfl rfl rfl rfl (by first | trivial | omega) ?_
      refine val 34 (SV.b (m.testBit n)) rfl (by show SV.b (bits .and .u64 ((m : Int).fdiv (2 ^ (min ((n : Int)).toNat 64))) 1 == 1) = _; rw [hb (by omega)]; cases m.testBit n <;> rfl) ?_
      refine g1 1 true 25 35 12 rfl rfl rfl rfl rfl ?_
      refine s1 35 146 12 rfl rfl rfl rfl rfl rfl trivial ?_
      refine s1 36 154 13 rfl rfl rfl rfl rfl rfl trivial ?_
      refine s1 7 162 14 rfl rfl rfl rfl rfl rfl trivial ?_
      refine e1 170 rfl ?_
      refine bn ?_
      refine tn ?_
      refine r0 ?_
      refine sA 37 170 1 rfl rfl rfl rfl rfl rfl rfl rfl rfl (by unfold inRange; omega) ?_
      refine s1 19 178 2 rfl rfl rfl rfl rfl rfl trivial ?_
      refine e1 186 rfl ?_
      refine tn ?_
      exact again ((n + 1 : Nat)) [0, 1] (show (n + 1) ≤ L.length from (by omega)) (show L.length - (n + 1) < L.length - n from (by omega)) rfl ⟨rfl, rfl, rfl, (by show SV.b _ = SV.b _; rw [allTo_succ]; first | (rw [hg5_25]; rfl) | (simp only [Int.toNat_natCast] at hg5_29; rw [hg5_25, decide_eq_true hg5_29]; rfl) | (simp only [Int.toNat_natCast] at hg5_29; rw [hg5_25, decide_eq_false hg5_29]; simp; done)), rfl, rfl, rfl, trivial⟩ ⟨rfl, rfl, trivial⟩
    try simp only [cs, ne_eq] at hg5_25
    refine g0 1 true 25 26 3 rfl rfl rfl rfl rfl rfl ?_
    refine g0 1 true 25 27 4 rfl rfl rfl rfl rfl rfl ?_
    refine g0 1 true 25 28 5 rfl rfl rfl rfl rfl rfl ?_
    refine g0 1 true 25 29 6 rfl rfl rfl rfl rfl rfl ?_
    refine gz 5 false 29 30 7 rfl rfl rfl rfl rfl rfl ?_
    refine gz 5 false 29 31 8 rfl rfl rfl rfl rfl rfl ?_
    refine gz 5 false 29 32 9 rfl rfl rfl rfl rfl rfl ?_
    refine gz 5 false 29 33 10 rfl rfl rfl rfl rfl rfl ?_
    refine gz 5 false 29 34 11 rfl rfl rfl rfl rfl rfl ?_
    refine g0 1 true 25 35 12 rfl rfl rfl rfl rfl rfl ?_
    refine s1 36 154 13 rfl rfl rfl rfl rfl rfl trivial ?_
    refine s1 7 162 14 rfl rfl rfl rfl rfl rfl trivial ?_
    refine e1 170 rfl ?_
    refine bn ?_
    refine tn ?_
    refine r0 ?_
    refine sA 37 170 1 rfl rfl rfl rfl rfl rfl rfl rfl rfl (by unfold inRange; omega) ?_
    refine s1 19 178 2 rfl rfl rfl rfl rfl rfl trivial ?_
    refine e1 186 rfl ?_
    refine tn ?_
    exact again ((n + 1 : Nat)) [0, 1] (show (n + 1) ≤ L.length from (by omega)) (show L.length - (n + 1) < L.length - n from (by omega)) rfl ⟨rfl, rfl, rfl, (by show SV.b _ = SV.b _; rw [allTo_succ]; first | (rw [hg5_25]; rfl) | (simp only [Int.toNat_natCast] at hg5_29; rw [hg5_25, decide_eq_true hg5_29]; rfl) | (simp only [Int.toNat_natCast] at hg5_29; rw [hg5_25, decide_eq_false hg5_29]; simp; done)), rfl, rfl, rfl, trivial⟩ ⟨rfl, rfl, trivial⟩
  try simp only [cs, ne_eq] at hc3
  refine W_exit ?_
  refine tx ?_
  refine tx ?_
  refine bx ?_
  refine tn ?_
  refine W_seq ?_
  obtain rfl : n = L.length := (by omega)
  refine r1 ?_
  refine s1 38 10 1 rfl rfl rfl rfl rfl rfl trivial ?_
  refine e1 18 rfl ?_
  refine keep [0, 1, 2, 38] rfl ?_
  refine q1 rfl (fun hc7 => ?_) (fun hc7 => ?_)
  · skip
    try simp only [cs, ne_eq] at hc7
    refine r1 ?_
    refine s1 6 18 1 rfl rfl rfl rfl rfl rfl trivial ?_
    refine e1 26 rfl ?_
    refine keep [6] rfl ?_
    refine W_ret ?_
    refine tr ?_
    exact out1 6 (SV.b true) (π := [0, 1]) (hout := [some (seekB L), some (.fam Z ⟨famS E, []⟩)]) Tryd.results47 rfl rfl rfl rfl ⟨rfl, rfl, trivial⟩ ⟨true, Z, E, rfl, rfl, aft_all hp hc7⟩
  try simp only [cs, ne_eq] at hc7
  have hall := hc7
  refine W_skip ?_
  refine tn ?_
  refine W_seq ?_
  rcases hk : kidx E m with _ | j
  · skip
    refine rd1 rfl ?_
    refine d1 39 18 1 rfl rfl rfl rfl rfl rfl trivial ?_
    refine d1 40 26 2 rfl rfl rfl rfl rfl rfl trivial ?_
    refine d1 41 34 3 rfl rfl rfl rfl rfl rfl trivial ?_
    refine d1 42 42 4 rfl rfl rfl rfl rfl rfl (by first | trivial | omega) ?_
    refine d1 43 50 5 rfl rfl rfl rfl rfl rfl trivial ?_
    refine dLookF none (.d .nils) (hk ▸ KF E m) (.inl ⟨rfl, .slice none 0 0, (by kernel_rfl), rfl, rfl⟩) 44 58 6 rfl rfl rfl rfl rfl rfl Tryd.underlying97 rfl (fun M ρ u h => h.val) rfl rfl ?_
    refine d1 45 66 7 rfl rfl rfl rfl rfl rfl trivial ?_
    refine dNilI 46 74 8 rfl rfl rfl rfl rfl rfl rfl (fun M ρ x h => obj_iface h) ?_
    refine dMeth (methV o) 47 82 9 rfl rfl rfl rfl rfl rfl rfl (fun M ρ x h => meth_of h) ?_
    refine dc1 (containsN_any o) [] [] 48 90 10 rfl rfl rfl rfl rfl rfl rfl rfl Tryd.func70 rfl rfl rfl rfl trivial rfl rfl ?_
    refine de1 98 rfl (by kernel_rfl) ?_
    refine keep [0, 1, 2, 48] rfl ?_
    refine q1 rfl (fun hc9 => ?_) (fun hc9 => ?_)
    · skip
      exact absurd hc9 (by decide)
    try simp only [cs, ne_eq] at hc9
    refine W_skip ?_
    refine tn ?_
    refine rd1 rfl ?_
    refine d1 49 98 1 rfl rfl rfl rfl rfl rfl trivial ?_
    refine d1 50 106 2 rfl rfl rfl rfl rfl rfl trivial ?_
    refine d1 51 114 3 rfl rfl rfl rfl rfl rfl trivial ?_
    refine d1 52 122 4 rfl rfl rfl rfl rfl rfl (by first | trivial | omega) ?_
    refine d1 53 130 5 rfl rfl rfl rfl rfl rfl trivial ?_
    refine d1 54 138 6 rfl rfl rfl rfl rfl rfl trivial ?_
    refine d1 55 146 7 rfl rfl rfl rfl rfl rfl trivial ?_
    refine d1 56 154 8 rfl rfl rfl rfl rfl rfl trivial ?_
    refine d1 57 162 9 rfl rfl rfl rfl rfl rfl (by first | trivial | omega) ?_
    refine d1 58 170 10 rfl rfl rfl rfl rfl rfl trivial ?_
    refine dLookF none (.d .nils) (hk ▸ KF E m) (.inl ⟨rfl, .slice none 0 0, (by kernel_rfl), rfl, rfl⟩) 59 178 11 rfl rfl rfl rfl rfl rfl Tryd.underlying97 rfl (fun M ρ u h => h.val) rfl rfl ?_
    refine d1 60 186 12 rfl rfl rfl rfl rfl rfl trivial ?_
    refine d1 61 194 13 rfl rfl rfl rfl rfl rfl trivial ?_
    refine d1 62 202 14 rfl rfl rfl rfl rfl rfl (by first | exact ⟨trivial, (by decide), (by decide)⟩ | exact ⟨Nat.le_refl _, trivial, (by show (l.length + 1) * 16 ≤ 140737488355328; omega), (by simp only [maxLen]; omega)⟩) ?_
    refine dMapF none (.sl 202 0 1) (hk ▸ KF E m) (fun p hp => by cases hp) 210 15 rfl rfl rfl rfl rfl Tryd.underlying97 rfl (fun M ρ u h => h.val) rfl rfl ?_
    refine de1 218 rfl (by kernel_rfl) ?_
    refine keep [0, 1, 2] rfl ?_
    refine chval 202 (.cells 91 1 [objV o]) rfl rfl ?_
    refine torows 202 1 (objF [o]) rfl (by decide) (Nat.le_refl _) (fun i c hi hc => by obtain rfl : i = 0 := (by omega); obtain rfl : c = 0 := (by omega); rfl) ?_
    refine famShut 1 (famS E).length [202] (.sl 0 0 1) [.rows 91 1 1 (objF [o])] rfl (push_at E _) rfl ⟨rfl, trivial⟩ rfl (fun Z2 => ?_)
    refine chval 1 (.fam Z2 ⟨famS (E ++ [(m, [o])]), []⟩) rfl (by rw [← famS_push (l := [o])]; rfl) ?_
    refine tell 2 [(0, .ptr 0 0 0), (1, SVu m), (2, objV o)] [some (seekB L), some (.fam Z2 ⟨famS (E ++ [(m, [o])]), []⟩)] [0, 1] rfl rfl ⟨rfl, rfl, rfl, trivial⟩ ⟨rfl, rfl, trivial⟩ ?_
    exact found_tail L hL kd f hIH m o E hp Z2 (E ++ [(m, [o])]) hall (mid0 hp (total_push E m o) (fun d x h => mem_push h))
  obtain ⟨l, hj⟩ := kidx_some hk
  have hll := total_at hj
  have hpt := hp.ht
  refine famOpen 1 j rfl (famS_at hj) rfl rfl (fun Z1 => ?_)
  refine rd1 rfl ?_
  refine d1 39 26 1 rfl rfl rfl rfl rfl rfl trivial ?_
  refine d1 40 34 2 rfl rfl rfl rfl rfl rfl trivial ?_
  refine d1 41 42 3 rfl rfl rfl rfl rfl rfl trivial ?_
  refine d1 42 50 4 rfl rfl rfl rfl rfl rfl (by first | trivial | omega) ?_
  refine d1 43 58 5 rfl rfl rfl rfl rfl rfl trivial ?_
  refine dLookF (some j) (.sl 18 0 l.length) (hk ▸ KF E m) (.inr ⟨j, rfl, List.mem_singleton.2 rfl⟩) 44 66 6 rfl rfl rfl rfl rfl rfl Tryd.underlying97 rfl (fun M ρ u h => h.val) rfl rfl ?_
  refine d1 45 74 7 rfl rfl rfl rfl rfl rfl trivial ?_
  refine dNilI 46 82 8 rfl rfl rfl rfl rfl rfl rfl (fun M ρ x h => obj_iface h) ?_
  refine dMeth (methV o) 47 90 9 rfl rfl rfl rfl rfl rfl rfl (fun M ρ x h => meth_of h) ?_
  refine dc1 (containsO_any o l (by omega) (fun i hi => by have := hp.hok m (l.getD i default) ⟨(m, l), List.mem_of_getElem? hj, rfl, (by rw [getG hi]; exact List.getElem_mem hi)⟩; exact ⟨hp.hk.trans this.1.symm, by omega⟩)) [18] [18] 48 98 10 rfl rfl rfl rfl rfl rfl rfl rfl Tryd.func70 rfl rfl rfl rfl ⟨rfl, trivial⟩ rfl rfl ?_
  refine de1 106 rfl (by kernel_rfl) ?_
  refine keep [0, 1, 2, 48] rfl ?_
  refine q1 rfl (fun hc9 => ?_) (fun hc9 => ?_)
  · skip
    try simp only [cs, ne_eq] at hc9
    refine r1 ?_
    refine s1 6 106 1 rfl rfl rfl rfl rfl rfl trivial ?_
    refine e1 114 rfl ?_
    refine keep [6] rfl ?_
    refine famShut 1 j [18] (.sl 0 0 l.length) [.rows 91 1 l.length (objF l)] rfl (famS_at hj) rfl ⟨rfl, trivial⟩ rfl (fun Z2 => ?_)
    refine chval 1 (.fam Z2 ⟨famS E, []⟩) rfl (by rw [famS_self hj]) ?_
    refine W_ret ?_
    refine tr ?_
    exact out1 6 (SV.b false) (π := [0, 1]) (hout := [some (seekB L), some (.fam Z2 ⟨famS E, []⟩)]) Tryd.results47 rfl rfl rfl rfl ⟨rfl, rfl, trivial⟩ ⟨false, Z2, E, rfl, rfl, aft_seen hp hj hc9⟩
  try simp only [cs, ne_eq] at hc9
  refine W_skip ?_
  refine tn ?_
  refine rd1 rfl ?_
  refine d1 49 106 1 rfl rfl rfl rfl rfl rfl trivial ?_
  refine d1 50 114 2 rfl rfl rfl rfl rfl rfl trivial ?_
  refine d1 51 122 3 rfl rfl rfl rfl rfl rfl trivial ?_
  refine d1 52 130 4 rfl rfl rfl rfl rfl rfl (by first | trivial | omega) ?_
  refine d1 53 138 5 rfl rfl rfl rfl rfl rfl trivial ?_
  refine d1 54 146 6 rfl rfl rfl rfl rfl rfl trivial ?_
  refine d1 55 154 7 rfl rfl rfl rfl rfl rfl trivial ?_
  refine d1 56 162 8 rfl rfl rfl rfl rfl rfl trivial ?_
  refine d1 57 170 9 rfl rfl rfl rfl rfl rfl (by first | trivial | omega) ?_
  refine d1 58 178 10 rfl rfl rfl rfl rfl rfl trivial ?_
  refine dLookF (some j) (.sl 18 0 l.length) (hk ▸ KF E m) (.inr ⟨j, rfl, List.mem_singleton.2 rfl⟩) 59 186 11 rfl rfl rfl rfl rfl rfl Tryd.underlying97 rfl (fun M ρ u h => h.val) rfl rfl ?_
  refine d1 60 194 12 rfl rfl rfl rfl rfl rfl trivial ?_
  refine d1 61 202 13 rfl rfl rfl rfl rfl rfl trivial ?_
  refine d1 62 210 14 rfl rfl rfl rfl rfl rfl (by first | exact ⟨trivial, (by decide), (by decide)⟩ | exact ⟨Nat.le_refl _, trivial, (by show (l.length + 1) * 16 ≤ 140737488355328; omega), (by simp only [maxLen]; omega)⟩) ?_
  refine dMapF (some j) (.sl 210 0 (l.length + 1)) (hk ▸ KF E m) (fun p hp => by rw [List.mem_singleton.1 hp]) 218 15 rfl rfl rfl rfl rfl Tryd.underlying97 rfl (fun M ρ u h => h.val) rfl rfl ?_
  refine de1 226 rfl (by kernel_rfl) ?_
  refine keep [0, 1, 2] rfl ?_
  refine rowsc 210 (l ++ [o]).length (objF (l ++ [o])) rfl (by simp) (fun i c hi hc => obj_cat l o i c hi hc) ?_
  refine famShut 1 j [210] (.sl 0 0 (l ++ [o]).length) [.rows 91 1 (l ++ [o]).length (objF (l ++ [o]))] rfl (set_at hj _) (by rw [List.length_append]; rfl) ⟨rfl, trivial⟩ rfl (fun Z2 => ?_)
  refine chval 1 (.fam Z2 ⟨famS (E.set j (m, l ++ [o])), []⟩) rfl (by rw [List.set_set, famS_set]) ?_
  refine tell 2 [(0, .ptr 0 0 0), (1, SVu m), (2, objV o)] [some (seekB L), some (.fam Z2 ⟨famS (E.set j (m, l ++ [o])), []⟩)] [0, 1] rfl rfl ⟨rfl, rfl, rfl, trivial⟩ ⟨rfl, rfl, trivial⟩ ?_
  exact found_tail L hL kd f hIH m o E hp Z2 (E.set j (m, l ++ [o])) hall (mid0 hp (total_set o hj) (fun d x h => mem_set hj h))

theorem found_any (L : List Act) (hL : L.length ≤ 9) (kd : Nat) : ∀ (f m : Nat) (o : Ob) (Z : List Nat) (E : List (Nat × List Ob)), Pre L kd m o f E → Spec Tryd.prog G0 47 [.ptr 0 0 0, SVu m, objV o] [seekB L, .fam Z ⟨famS E, []⟩] (fun r ho => ∃ b Z' E', r = SV.b b ∧ ho = [some (seekB L), some (.fam Z' ⟨famS E', []⟩)] ∧ Aft L kd m o f E b E') := by
  intro f
  induction f with
  | zero => intro m o Z E hp; exact found_step L hL kd 0 (fun f' e => by omega) m o E hp Z
  | succ f ih => intro m o Z E hp; exact found_step L hL kd (f + 1) (fun f' e => by obtain rfl : f = f' := (by omega); exact ih) m o E hp Z
end Go.Proofs.YtnnjobmiepnedaaDoor.Nice.Lin

/- lin.Check tells what the search finds. -/
namespace Go.Proofs.YtnnjobmiepnedaaDoor.Nice.Lin
open Go
set_option linter.unusedVariables false
set_option linter.unusedSimpArgs false
set_option maxRecDepth 100000
set_option maxHeartbeats 4000000

theorem unset_none (n : Nat) : unset n 0 = n := by
  unfold unset
  rw [List.filter_eq_self.2 (by intro k hk; simp)]; simp
def obOf (k n : Int) : Ob := if k = 1 then .reg n else if k = 2 then .cnt n else .hp (decide (k = 4)) []
theorem obOf_1 {k n : Int} (h : k = 1) : obOf k n = .reg n := by unfold obOf; rw [if_pos h]
theorem obOf_2 {k n : Int} (h : k = 2) : obOf k n = .cnt n := by unfold obOf; rw [if_neg (by omega), if_pos h]
theorem obOf_h {k n : Int} (h : ¬ k = 1) (h2 : ¬ k = 2) : obOf k n = .hp (decide (k = 4)) [] := by unfold obOf; rw [if_neg h, if_neg h2]
theorem obOf_size (k n : Int) : osize (obOf k n) = 0 := by
  unfold obOf
  split
  · rfl
  · split <;> rfl
theorem may_in {k : Int} {l : List Act} (h : mayB k l = true) : 1 ≤ k ∧ k ≤ 4 ∧ l.length ≤ 9 := by
  unfold mayB inB at h
  simp only [Bool.and_eq_true, decide_eq_true_eq] at h
  exact ⟨h.1.1.1, h.1.1.2, h.1.2⟩
theorem ob_hp0 {M : Imm} {ρ : Names} {b : Bool} {x : Value} (h : VR M ρ (.agg [SV.b b, .d .nils]) x) : VR M ρ (objV (.hp b [])) (.iface 95 x) := by
  obtain ⟨vs, rfl, hs, hr⟩ := agg_case h
  refine ob_hp (n := 0) (f := intsF []) (.aggOf _ _ hs fun i s hi => ?_) rfl (fun _ _ _ _ => rfl)
  match i, hi with
  | 0, hi => cases hi; exact hr 0 _ rfl
  | 1, hi => cases hi; obtain ⟨u, e, r⟩ := hr 1 _ rfl; exact ⟨u, e, r.nil_vec⟩
  | n + 2, hi => simp at hi
theorem pre0 {k n : Int} {l : List Act} (h : mayB k l = true) : Pre l (okind (obOf k n)) 0 (obOf k n) l.length [] := by
  obtain ⟨h1, h2, h3⟩ := may_in h
  refine ⟨Nat.pow_pos (by omega), unset_none _, rfl, by rw [obOf_size]; omega, fun d x hm => ?_, ?_, fun d x hm => ?_⟩
  · obtain ⟨p, hp, _⟩ := hm; cases hp
  · have := T_big l.length h3
    show 0 + _ ≤ _
    omega
  · obtain ⟨p, hp, _⟩ := hm; cases hp

theorem check_any (k n : Int) (l : List Act) (hl : l.length ≤ 9223372036854775807) : Spec Tryd.prog G0 21 [SV.i k, SV.i n, actsV l] [] (fun r ho => r = .tup [SV.b (mayB k l && FF l 0 (obOf k n)), SV.i (if mayB k l then 0 else 4)] ∧ ho = []) := by
  refine start 34 0 Tryd.func21 rfl rfl rfl rfl ?_
  refine r1 ?_
  refine s1 6 0 1 rfl rfl rfl rfl rfl rfl trivial ?_
  refine s1 7 8 2 rfl rfl rfl rfl rfl rfl trivial ?_
  refine e1 16 rfl ?_
  refine keep [0, 1, 2] rfl ?_
  refine W_seq ?_
  refine r1 ?_
  refine s1 10 16 1 rfl rfl rfl rfl rfl rfl trivial ?_
  refine s1 11 24 2 rfl rfl rfl rfl rfl rfl trivial ?_
  refine c1 (may_any k l hl) [] [] 12 32 3 rfl rfl rfl rfl rfl rfl rfl rfl Tryd.func46 rfl rfl rfl rfl trivial rfl rfl ?_
  refine s1 13 40 4 rfl rfl rfl rfl rfl rfl trivial ?_
  refine e1 48 rfl ?_
  refine keep [0, 1, 2, 13] rfl ?_
  refine q1 rfl (fun hc1 => ?_) (fun hc1 => ?_)
  · skip
    try simp only [cs, ne_eq] at hc1
    refine r1 ?_
    refine s1 6 48 1 rfl rfl rfl rfl rfl rfl trivial ?_
    refine s1 7 56 2 rfl rfl rfl rfl rfl rfl trivial ?_
    refine e1 64 rfl ?_
    refine keep [6, 7] rfl ?_
    refine W_ret ?_
    refine tr ?_
    exact out2 6 7 (SV.b (mayB k l && FF l 0 (obOf k n))) (SV.i (if mayB k l then 0 else 4)) (π := []) (hout := []) Tryd.results21 rfl rfl (by have hm : mayB k l = false := (by simpa using hc1); rw [hm]; rfl) (by have hm : mayB k l = false := (by simpa using hc1); rw [hm]; rfl) rfl rfl trivial ⟨rfl, rfl⟩
  try simp only [cs, ne_eq] at hc1
  refine W_skip ?_
  refine tn ?_
  have hm : mayB k l = true := (by simpa using hc1)
  refine r1 ?_
  refine s1 8 48 1 rfl rfl rfl rfl rfl rfl trivial ?_
  refine e1 56 rfl ?_
  refine keep [0, 1, 2] rfl ?_
  refine W_seq ?_
  refine r1 ?_
  refine s1 14 56 1 rfl rfl rfl rfl rfl rfl trivial ?_
  refine e1 64 rfl ?_
  refine keep [0, 1, 2, 14] rfl ?_
  refine W_block ?_
  refine r1 ?_
  refine s1 20 64 1 rfl rfl rfl rfl rfl rfl (by first | trivial | omega) ?_
  refine s1 19 72 2 rfl rfl rfl rfl rfl rfl trivial ?_
  refine e1 80 rfl ?_
  refine keep [0, 1, 2, 14, 19] rfl ?_
  refine q1 rfl (fun hc6 => ?_) (fun hc6 => ?_)
  · skip
    try simp only [cs, ne_eq] at hc6
    refine r0 ?_
    refine s1 21 80 1 rfl rfl rfl rfl rfl rfl trivial ?_
    refine sIfc (objV (obOf k n)) 22 88 2 rfl rfl rfl rfl rfl rfl Tryd.underlying92 rfl rfl (fun M ρ x h => by rw [obOf_1 hc6]; exact ob_reg h) ?_
    refine s1 8 96 3 rfl rfl rfl rfl rfl rfl trivial ?_
    refine e1 104 rfl ?_
    refine bn ?_
    refine tn ?_
    refine r1 ?_
    refine s1 27 104 1 rfl rfl rfl rfl rfl rfl trivial ?_
    refine s1 28 112 2 rfl rfl rfl rfl rfl rfl trivial ?_
    refine s1 29 120 3 rfl rfl rfl rfl rfl rfl trivial ?_
    refine s1 30 128 4 rfl rfl rfl rfl rfl rfl trivial ?_
    refine s1 9 136 5 rfl rfl rfl rfl rfl rfl trivial ?_
    refine e1 144 rfl ?_
    refine keep [8, 9] rfl ?_
    refine tofam 112 rfl ?_
    refine r1 ?_
    refine s1 31 144 1 rfl rfl rfl rfl rfl rfl trivial ?_
    refine s1 32 152 2 rfl rfl rfl rfl rfl rfl trivial ?_
    refine cQ (found_any l (may_in hm).2.2 (okind (obOf k n)) l.length 0 (obOf k n) [] [] (pre0 hm)) [128, 112] 33 160 3 rfl rfl rfl rfl rfl rfl rfl Tryd.func47 rfl rfl rfl ⟨rfl, rfl, trivial⟩ ?_
    rintro _ _ ⟨b, Z2, E2, rfl, rfl, haf⟩
    refine val 33 (SV.b b) rfl rfl ?_
    refine s1 6 168 4 rfl rfl rfl rfl rfl rfl trivial ?_
    refine s1 7 176 5 rfl rfl rfl rfl rfl rfl trivial ?_
    refine e1 184 rfl ?_
    refine keep [6, 7] rfl ?_
    refine W_ret ?_
    exact out2 6 7 (SV.b (mayB k l && FF l 0 (obOf k n))) (SV.i (if mayB k l then 0 else 4)) (π := []) (hout := []) Tryd.results21 rfl rfl (by rw [hm, haf.hb]; rfl) (by rw [hm]; rfl) rfl rfl trivial ⟨rfl, rfl⟩
  try simp only [cs, ne_eq] at hc6
  refine r1 ?_
  refine s1 24 80 1 rfl rfl rfl rfl rfl rfl (by first | trivial | omega) ?_
  refine s1 23 88 2 rfl rfl rfl rfl rfl rfl trivial ?_
  refine e1 96 rfl ?_
  refine keep [0, 1, 2, 23] rfl ?_
  refine q1 rfl (fun hc8 => ?_) (fun hc8 => ?_)
  · skip
    try simp only [cs, ne_eq] at hc8
    refine r0 ?_
    refine s1 25 96 1 rfl rfl rfl rfl rfl rfl trivial ?_
    refine sIfc (objV (obOf k n)) 26 104 2 rfl rfl rfl rfl rfl rfl Tryd.underlying93 rfl rfl (fun M ρ x h => by rw [obOf_2 hc8]; exact ob_cnt h) ?_
    refine s1 8 112 3 rfl rfl rfl rfl rfl rfl trivial ?_
    refine e1 120 rfl ?_
    refine bn ?_
    refine tn ?_
    refine r1 ?_
    refine s1 27 120 1 rfl rfl rfl rfl rfl rfl trivial ?_
    refine s1 28 128 2 rfl rfl rfl rfl rfl rfl trivial ?_
    refine s1 29 136 3 rfl rfl rfl rfl rfl rfl trivial ?_
    refine s1 30 144 4 rfl rfl rfl rfl rfl rfl trivial ?_
    refine s1 9 152 5 rfl rfl rfl rfl rfl rfl trivial ?_
    refine e1 160 rfl ?_
    refine keep [8, 9] rfl ?_
    refine tofam 128 rfl ?_
    refine r1 ?_
    refine s1 31 160 1 rfl rfl rfl rfl rfl rfl trivial ?_
    refine s1 32 168 2 rfl rfl rfl rfl rfl rfl trivial ?_
    refine cQ (found_any l (may_in hm).2.2 (okind (obOf k n)) l.length 0 (obOf k n) [] [] (pre0 hm)) [144, 128] 33 176 3 rfl rfl rfl rfl rfl rfl rfl Tryd.func47 rfl rfl rfl ⟨rfl, rfl, trivial⟩ ?_
    rintro _ _ ⟨b, Z2, E2, rfl, rfl, haf⟩
    refine val 33 (SV.b b) rfl rfl ?_
    refine s1 6 184 4 rfl rfl rfl rfl rfl rfl trivial ?_
    refine s1 7 192 5 rfl rfl rfl rfl rfl rfl trivial ?_
    refine e1 200 rfl ?_
    refine keep [6, 7] rfl ?_
    refine W_ret ?_
    exact out2 6 7 (SV.b (mayB k l && FF l 0 (obOf k n))) (SV.i (if mayB k l then 0 else 4)) (π := []) (hout := []) Tryd.results21 rfl rfl (by rw [hm, haf.hb]; rfl) (by rw [hm]; rfl) rfl rfl trivial ⟨rfl, rfl⟩
  try simp only [cs, ne_eq] at hc8
  refine r0 ?_
  refine s1 15 96 1 rfl rfl rfl rfl rfl rfl trivial ?_
  refine s1 16 104 2 rfl rfl rfl rfl rfl rfl (by first | trivial | omega) ?_
  refine s1 17 112 3 rfl rfl rfl rfl rfl rfl trivial ?_
  refine sIfc (objV (obOf k n)) 18 120 4 rfl rfl rfl rfl rfl rfl Tryd.underlying95 rfl rfl (fun M ρ x h => by rw [obOf_h hc6 hc8]; exact ob_hp0 h) ?_
  refine s1 8 128 5 rfl rfl rfl rfl rfl rfl trivial ?_
  refine e1 136 rfl ?_
  refine bn ?_
  refine tn ?_
  refine r1 ?_
  refine s1 27 136 1 rfl rfl rfl rfl rfl rfl trivial ?_
  refine s1 28 144 2 rfl rfl rfl rfl rfl rfl trivial ?_
  refine s1 29 152 3 rfl rfl rfl rfl rfl rfl trivial ?_
  refine s1 30 160 4 rfl rfl rfl rfl rfl rfl trivial ?_
  refine s1 9 168 5 rfl rfl rfl rfl rfl rfl trivial ?_
  refine e1 176 rfl ?_
  refine keep [8, 9] rfl ?_
  refine tofam 144 rfl ?_
  refine r1 ?_
  refine s1 31 176 1 rfl rfl rfl rfl rfl rfl trivial ?_
  refine s1 32 184 2 rfl rfl rfl rfl rfl rfl trivial ?_
  refine cQ (found_any l (may_in hm).2.2 (okind (obOf k n)) l.length 0 (obOf k n) [] [] (pre0 hm)) [160, 144] 33 192 3 rfl rfl rfl rfl rfl rfl rfl Tryd.func47 rfl rfl rfl ⟨rfl, rfl, trivial⟩ ?_
  rintro _ _ ⟨b, Z2, E2, rfl, rfl, haf⟩
  refine val 33 (SV.b b) rfl rfl ?_
  refine s1 6 200 4 rfl rfl rfl rfl rfl rfl trivial ?_
  refine s1 7 208 5 rfl rfl rfl rfl rfl rfl trivial ?_
  refine e1 216 rfl ?_
  refine keep [6, 7] rfl ?_
  refine W_ret ?_
  exact out2 6 7 (SV.b (mayB k l && FF l 0 (obOf k n))) (SV.i (if mayB k l then 0 else 4)) (π := []) (hout := []) Tryd.results21 rfl rfl (by rw [hm, haf.hb]; rfl) (by rw [hm]; rfl) rfl rfl trivial ⟨rfl, rfl⟩

end Go.Proofs.YtnnjobmiepnedaaDoor.Nice.Lin
