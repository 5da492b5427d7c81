/- Choosing by matchers: plain facts. -/
import Derived.Test.YtlhncpbcbpdcfaaTagIdx
namespace Go.Proofs.Ytlhncpbcbpdcfaa.Nice
open Go
set_option linter.unusedVariables false
set_option linter.unusedSimpArgs false
set_option maxRecDepth 100000
set_option maxHeartbeats 4000000
def cntK (l : List TagD) (k : Key) : Nat → Nat
  | 0 => 0
  | n + 1 => (cntK l k n + if k = kv (l.getD n default) then 1 else 0) + if k = k0 (l.getD n default) then 1 else 0
theorem rep_one (c : Nat) (i : Int) (P : Prop) [Decidable P] : (if P then List.replicate c i ++ [i] else List.replicate c i) = List.replicate (c + if P then 1 else 0) i := by
  by_cases h : P
  · rw [if_pos h, if_pos h, List.replicate_succ']
  · rw [if_neg h, if_neg h]; rfl
theorem get_L (l : List TagD) (i : Int) (E : Post) (k : Key) : ∀ n, getE (idxL l i n E) k = getE E k ++ List.replicate (cntK l k n) i
  | 0 => by simp [idxL, cntK]
  | n + 1 => by
    simp only [idxL, cntK, get_push, get_L l i E k n]
    rw [← rep_one, ← rep_one]
    by_cases h1 : k = kv (l.getD n default) <;> by_cases h2 : k = k0 (l.getD n default) <;> simp only [h1, h2, if_true, if_false, List.append_assoc] <;> (try rfl)
    all_goals (first | rfl | (split <;> simp [List.append_assoc]))
structure Asc (l : List Int) (n : Nat) : Prop where
  lt : ∀ x, x ∈ l → 0 ≤ x ∧ x < n
  pw : l.Pairwise (· ≤ ·)
theorem asc_S (ss : List (List TagD)) (k : Key) : ∀ i, Asc (getE (idxS ss i) k) i
  | 0 => ⟨fun x hx => (by cases hx), .nil⟩
  | i + 1 => by
    obtain ⟨h1, h2⟩ := asc_S ss k i
    unfold idxS
    rw [get_L]
    refine ⟨fun x hx => ?_, ?_⟩
    · rcases List.mem_append.1 hx with h | h
      · have := h1 x h; omega
      · have := List.eq_of_mem_replicate h; omega
    · rw [List.pairwise_append]
      refine ⟨h2, List.pairwise_replicate.2 (.inr (Int.le_refl _)), fun a ha b hb => ?_⟩
      have := (h1 a ha).2
      have := List.eq_of_mem_replicate hb
      omega
theorem mem_S (ss : List (List TagD)) (k : Key) (x : Int) : ∀ i, x ∈ getE (idxS ss i) k ↔ ∃ q, q < i ∧ x = (q : Nat) ∧ 0 < cntK (ss.getD q []) k (ss.getD q []).length
  | 0 => ⟨fun h => (by cases h), fun ⟨q, h, _⟩ => (by omega)⟩
  | i + 1 => by
    unfold idxS
    rw [get_L, List.mem_append, mem_S ss k x i, List.mem_replicate]
    constructor
    · rintro (⟨q, h1, h2, h3⟩ | ⟨h1, h2⟩)
      · exact ⟨q, by omega, h2, h3⟩
      · exact ⟨i, by omega, h2, by omega⟩
    · rintro ⟨q, h1, h2, h3⟩
      by_cases e : q = i
      · subst e; exact .inr ⟨by omega, h2⟩
      · exact .inl ⟨q, by omega, h2, h3⟩
theorem cnt_pos (l : List TagD) (k : Key) : ∀ n, 0 < cntK l k n ↔ ∃ j, j < n ∧ (k = kv (l.getD j default) ∨ k = k0 (l.getD j default))
  | 0 => ⟨fun h => absurd h (Nat.lt_irrefl _), fun ⟨j, h, _⟩ => by omega⟩
  | n + 1 => by
    have ih := cnt_pos l k n
    simp only [cntK]
    constructor
    · intro h
      by_cases h1 : k = kv (l.getD n default)
      · exact ⟨n, by omega, .inl h1⟩
      by_cases h2 : k = k0 (l.getD n default)
      · exact ⟨n, by omega, .inr h2⟩
      rw [if_neg h1, if_neg h2] at h
      obtain ⟨j, hj, h3⟩ := ih.1 h
      exact ⟨j, by omega, h3⟩
    · rintro ⟨j, hj, h3⟩
      by_cases e : j = n
      · subst e
        rcases h3 with h3 | h3
        · rw [if_pos h3]; omega
        · rw [if_pos h3]; omega
      · have := ih.2 ⟨j, by omega, h3⟩; omega
structure MatD where
  kind : Int
  key : ByteArray
  val : ByteArray
  deriving Inhabited
def mtag (m : MatD) : Key := (m.key, m.val)
def matC (m : MatD) : Nat → D
  | 0 => .val (.int .i64 m.kind)
  | 1 => .val (.string m.key)
  | 2 => .val (.string m.val)
  | _ => .any
def matF (l : List MatD) : Nat → Nat → D := fun i c => matC (l.getD i default) c
def matsV (l : List MatD) : SV := .d (.vec 3 l.length (matF l))
def matV (m : MatD) : SV := .agg [SV.i m.kind, .d (.val (.string m.key)), .d (.val (.string m.val))]
def tagB (l : List TagD) (m : MatD) (n : Nat) : Bool := (List.range n).any fun j => decide (mtag m = kv (l.getD j default))
def keyB (l : List TagD) (m : MatD) (n : Nat) : Bool := (List.range n).any fun j => decide (m.key = (l.getD j default).key)
theorem tagB_succ (l : List TagD) (m : MatD) (n : Nat) : tagB l m (n + 1) = (tagB l m n || decide (mtag m = kv (l.getD n default))) := by unfold tagB; rw [List.range_succ, List.any_append]; simp
theorem keyB_succ (l : List TagD) (m : MatD) (n : Nat) : keyB l m (n + 1) = (keyB l m n || decide (m.key = (l.getD n default).key)) := by unfold keyB; rw [List.range_succ, List.any_append]; simp
def meantB (l : List TagD) (m : MatD) : Bool :=
  if m.kind = 1 then tagB l m l.length else if m.kind = 2 then !tagB l m l.length else if m.kind = 3 then keyB l m l.length else !keyB l m l.length
def faultB (m : MatD) : Int :=
  if m.kind < 1 ∨ 4 < m.kind then 3 else if nameB m.key = false then 4 else if m.kind ≤ 2 ∧ nameB m.val = false then 4 else if 2 < m.kind ∧ ¬ m.val = ⟨#[]⟩ then 4 else 0
theorem name_ne {s : ByteArray} (h : nameB s = true) : ¬ s = ⟨#[]⟩ := by
  rintro rfl
  exact absurd h (by decide)
def hitB (l : List TagD) (m : MatD) : Bool := decide (0 < cntK l (mtag m) l.length)
theorem hit_meant {l : List TagD} {m : MatD} (hl : ∀ k, k < l.length → TagOk l k) (hm : faultB m = 0) : (hitB l m == (decide (m.kind = 1) || decide (m.kind = 3))) = meantB l m := by
  have hk : 1 ≤ m.kind ∧ m.kind ≤ 4 := by
    apply Classical.byContradiction; intro h
    unfold faultB at hm; rw [if_pos (by omega)] at hm; cases hm
  unfold faultB at hm
  rw [if_neg (by omega)] at hm
  by_cases hn : nameB m.key = false
  · rw [if_pos hn] at hm; cases hm
  rw [if_neg hn] at hm
  have low : m.kind ≤ 2 → hitB l m = tagB l m l.length := by
    intro h2
    have hv : nameB m.val = true := by
      cases hv : nameB m.val with
      | true => rfl
      | false => rw [if_pos ⟨h2, hv⟩] at hm; cases hm
    unfold hitB
    rw [Bool.eq_iff_iff, decide_eq_true_eq, cnt_pos]
    unfold tagB
    rw [List.any_eq_true]
    constructor
    · rintro ⟨j, hj, h | h⟩
      · exact ⟨j, by simpa using hj, by rw [decide_eq_true_eq]; exact h⟩
      · exact absurd (congrArg Prod.snd h) (name_ne hv)
    · rintro ⟨j, hj, h⟩
      exact ⟨j, by simpa using hj, .inl (by rw [decide_eq_true_eq] at h; exact h)⟩
  have high : 2 < m.kind → hitB l m = keyB l m l.length := by
    intro h2
    have hv : m.val = ⟨#[]⟩ := by
      apply Classical.byContradiction; intro hv
      rw [if_neg (by rintro ⟨h3, _⟩; omega), if_pos ⟨h2, hv⟩] at hm; cases hm
    unfold hitB
    rw [Bool.eq_iff_iff, decide_eq_true_eq, cnt_pos]
    unfold keyB
    rw [List.any_eq_true]
    constructor
    · rintro ⟨j, hj, h | h⟩
      · exfalso
        have h4 := congrArg Prod.snd h
        have h5 : (l.getD j default).val = ⟨#[]⟩ := h4.symm.trans hv
        exact name_ne (hl j hj).val h5
      · exact ⟨j, by simpa using hj, by rw [decide_eq_true_eq]; exact congrArg Prod.fst h⟩
    · rintro ⟨j, hj, h⟩
      rw [decide_eq_true_eq] at h
      exact ⟨j, by simpa using hj, .inr (by unfold mtag k0; rw [h, hv])⟩
  unfold meantB
  by_cases e1 : m.kind = 1
  · rw [if_pos e1, low (by omega), decide_eq_true e1]; simp
  rw [if_neg e1]
  by_cases e2 : m.kind = 2
  · rw [if_pos e2, low (by omega), decide_eq_false e1, decide_eq_false (by omega)]; simp
  rw [if_neg e2]
  by_cases e3 : m.kind = 3
  · rw [if_pos e3, high (by omega), decide_eq_true e3]; simp
  rw [if_neg e3, high (by omega), decide_eq_false e1, decide_eq_false e3]; simp
def allB (ss : List (List TagD)) (ms : List MatD) (n : Nat) (q : Nat) : Bool := (List.range n).all fun j => meantB (ss.getD q []) (ms.getD j default)
theorem allB_succ (ss : List (List TagD)) (ms : List MatD) (n q : Nat) : allB ss ms (n + 1) q = (allB ss ms n q && meantB (ss.getD q []) (ms.getD n default)) := by unfold allB; rw [List.range_succ, List.all_append]; simp
def selL (ss : List (List TagD)) (ms : List MatD) (n c : Nat) : List Int := ((List.range c).filter (allB ss ms n)).map fun (q : Nat) => (q : Int)
theorem selL_succ (ss : List (List TagD)) (ms : List MatD) (n c : Nat) : selL ss ms n (c + 1) = if allB ss ms n c = true then selL ss ms n c ++ [(c : Int)] else selL ss ms n c := by
  unfold selL
  rw [List.range_succ, List.filter_append, List.map_append]
  by_cases h : allB ss ms n c = true
  · rw [if_pos h, List.filter_cons, if_pos h]; rfl
  · rw [if_neg h, List.filter_cons, if_neg h]; simp
theorem selL_len (ss : List (List TagD)) (ms : List MatD) (n c : Nat) : (selL ss ms n c).length ≤ c := by
  unfold selL
  rw [List.length_map]
  exact Nat.le_trans (List.length_filter_le _ _) (by rw [List.length_range]; exact Nat.le_refl _)
theorem selL_zero (ss : List (List TagD)) (ms : List MatD) (c : Nat) : selL ss ms 0 (c + 1) = selL ss ms 0 c ++ [(c : Int)] := by
  rw [selL_succ, if_pos (show allB ss ms 0 c = true from rfl)]
def bothL (a b : List Int) (w : Bool) : List Int := a.filter fun x => decide (x ∈ b) == w
theorem both_sel {ss : List (List TagD)} {ms : List MatD} {n : Nat} (hok : ∀ i, i < ss.length → SerOk ss i) (hm : faultB (ms.getD n default) = 0) :
    bothL (selL ss ms n ss.length) (getE (idxS ss ss.length) (mtag (ms.getD n default))) (decide ((ms.getD n default).kind = 1) || decide ((ms.getD n default).kind = 3)) = selL ss ms (n + 1) ss.length := by
  unfold bothL selL
  rw [List.filter_map, List.filter_filter]
  refine congrArg _ (List.filter_congr fun q hq => ?_)
  have hq : q < ss.length := by simpa using hq
  rw [allB_succ, Bool.and_comm]
  refine congrArg _ ?_
  rw [← hit_meant (hok q hq).tag hm]
  simp only [Function.comp]
  refine congrArg (· == _) ?_
  unfold hitB
  rw [decide_eq_decide, mem_S]
  constructor
  · rintro ⟨q', h1, h2, h3⟩
    obtain rfl : q = q' := by omega
    exact h3
  · intro h; exact ⟨q, hq, rfl, h⟩
theorem both_succ (a b : List Int) (w : Bool) (n : Nat) (hn : n < a.length) : bothL (a.take (n + 1)) b w = if (decide (a.getD n 0 ∈ b) == w) = true then bothL (a.take n) b w ++ [a.getD n 0] else bothL (a.take n) b w := by
  unfold bothL
  have e : a.take (n + 1) = a.take n ++ [a.getD n 0] := by rw [List.take_add_one, List.getElem?_eq_getElem hn]; simp [List.getD, hn]
  rw [e, List.filter_append]
  by_cases h : (decide (a.getD n 0 ∈ b) == w) = true
  · rw [if_pos h, List.filter_cons, if_pos h]; rfl
  · rw [if_neg h, List.filter_cons, if_neg h]; simp
theorem both_len (a b : List Int) (w : Bool) (n : Nat) : (bothL (a.take n) b w).length ≤ n := by
  unfold bothL
  exact Nat.le_trans (List.length_filter_le _ _) (by rw [List.length_take]; exact Nat.min_le_left _ _)
def selP (p : Bool) (ss : List (List TagD)) (ms : List MatD) : List Int × Int :=
  if p = false then ([], 4) else if 8 < ms.length then ([], 1) else
    match (List.range ms.length).find? fun j => decide (¬ faultB (ms.getD j default) = 0) with
    | some j => ([], faultB (ms.getD j default))
    | none => (selL ss ms ms.length ss.length, 0)
theorem sel_form {p : Bool} {ss : List (List TagD)} {ms : List MatD} (h : p = false) : selP p ss ms = ([], 4) := by unfold selP; rw [if_pos h]
theorem sel_size {p : Bool} {ss : List (List TagD)} {ms : List MatD} (h : p = true) (h8 : 8 < ms.length) : selP p ss ms = ([], 1) := by unfold selP; rw [if_neg (by rw [h]; decide), if_pos h8]
theorem sel_fault {p : Bool} {ss : List (List TagD)} {ms : List MatD} {n : Nat} (h : p = true) (h8 : ¬ 8 < ms.length) (hn : n < ms.length) (hno : ∀ j, j < n → faultB (ms.getD j default) = 0) (hf : ¬ faultB (ms.getD n default) = 0) : selP p ss ms = ([], faultB (ms.getD n default)) := by
  have : (List.range ms.length).find? (fun j => decide (¬ faultB (ms.getD j default) = 0)) = some n := by
    rw [List.find?_range_eq_some]
    refine ⟨by rw [decide_eq_true_eq]; exact hf, by simpa using hn, fun j hj => ?_⟩
    rw [Bool.not_eq_true', decide_eq_false_iff_not]; exact fun h => h (hno j hj)
  unfold selP; rw [if_neg (by rw [h]; decide), if_neg h8, this]
theorem sel_ok {p : Bool} {ss : List (List TagD)} {ms : List MatD} (h : p = true) (h8 : ¬ 8 < ms.length) (hno : ∀ j, j < ms.length → faultB (ms.getD j default) = 0) : selP p ss ms = (selL ss ms ms.length ss.length, 0) := by
  have : (List.range ms.length).find? (fun j => decide (¬ faultB (ms.getD j default) = 0)) = none := by
    rw [List.find?_range_eq_none]
    intro j hj
    rw [Bool.not_eq_true', decide_eq_false_iff_not]; exact fun h => h (hno j hj)
  unfold selP; rw [if_neg (by rw [h]; decide), if_neg h8, this]
theorem sel_len {p : Bool} {ss : List (List TagD)} {ms : List MatD} : (selP p ss ms).1.length ≤ ss.length := by
  unfold selP
  split
  · exact Nat.zero_le _
  split
  · exact Nat.zero_le _
  split
  · exact Nat.zero_le _
  · exact selL_len ss ms _ _
theorem f3 {m : MatD} (h : m.kind < 1 ∨ 4 < m.kind) : faultB m = 3 := by unfold faultB; rw [if_pos h]
theorem f4k {m : MatD} (h1 : 1 ≤ m.kind) (h4 : m.kind ≤ 4) (hk : nameB m.key = false) : faultB m = 4 := by unfold faultB; rw [if_neg (by omega), if_pos hk]
theorem f4v {m : MatD} (h1 : 1 ≤ m.kind) (h4 : m.kind ≤ 2) (hk : nameB m.key = true) (hv : nameB m.val = false) : faultB m = 4 := by unfold faultB; rw [if_neg (by omega), if_neg (by rw [hk]; decide), if_pos ⟨h4, hv⟩]
theorem f4s {m : MatD} (h1 : 3 ≤ m.kind) (h4 : m.kind ≤ 4) (hk : nameB m.key = true) (hv : ¬ m.val.toList = (⟨#[]⟩ : ByteArray).toList) : faultB m = 4 := by unfold faultB; rw [if_neg (by omega), if_neg (by rw [hk]; decide), if_neg (by omega), if_pos ⟨by omega, fun e => hv (by rw [e])⟩]
theorem f0l {m : MatD} (h1 : 1 ≤ m.kind) (h4 : m.kind ≤ 2) (hk : nameB m.key = true) (hv : nameB m.val = true) : faultB m = 0 := by unfold faultB; rw [if_neg (by omega), if_neg (by rw [hk]; decide), if_neg (by rw [hv]; simp), if_neg (by omega)]
theorem f0h {m : MatD} (h1 : 3 ≤ m.kind) (h4 : m.kind ≤ 4) (hk : nameB m.key = true) (hv : m.val.toList = (⟨#[]⟩ : ByteArray).toList) : faultB m = 0 := by unfold faultB; rw [if_neg (by omega), if_neg (by rw [hk]; decide), if_neg (by omega), if_neg (by rintro ⟨_, h⟩; exact h (str_eq.2 hv))]
theorem meant_1 {l : List TagD} {m : MatD} (h : m.kind = 1) : meantB l m = tagB l m l.length := by unfold meantB; rw [if_pos h]
theorem meant_2 {l : List TagD} {m : MatD} (h : m.kind = 2) : meantB l m = !tagB l m l.length := by unfold meantB; rw [if_neg (by omega), if_pos h]
theorem meant_3 {l : List TagD} {m : MatD} (h : m.kind = 3) : meantB l m = keyB l m l.length := by unfold meantB; rw [if_neg (by omega), if_neg (by omega), if_pos h]
theorem meant_4 {l : List TagD} {m : MatD} (h1 : ¬ m.kind = 1) (h2 : ¬ m.kind = 2) (h3 : ¬ m.kind = 3) : meantB l m = !keyB l m l.length := by unfold meantB; rw [if_neg h1, if_neg h2, if_neg h3]
theorem eq_key (t : TagD) (m : MatD) : (t.key.toList == m.key.toList) = decide (m.key = t.key) := by
  rw [Bool.eq_iff_iff, decide_eq_true_eq, str_eq, beq_iff_eq]; exact ⟨fun h => h.symm, fun h => h.symm⟩
theorem eq_tag (t : TagD) (m : MatD) : ((t.key.toList == m.key.toList) && ((t.val.toList == m.val.toList) && true)) = decide (mtag m = kv t) := by
  rw [Bool.eq_iff_iff, decide_eq_true_eq, Bool.and_eq_true, Bool.and_true, beq_iff_eq, beq_iff_eq]
  unfold mtag kv
  rw [Prod.mk.injEq, str_eq (x := m.key), str_eq (x := m.val)]
  exact ⟨fun h => ⟨h.1.symm, h.2.symm⟩, fun h => ⟨h.1.symm, h.2.symm⟩⟩
structure MatsIn (ms : List MatD) : Prop where
  n : ms.length ≤ 9223372036854775807
  k : ∀ i, (ms.getD i default).key.size ≤ 9223372036854775807
  v : ∀ i, (ms.getD i default).val.size ≤ 9223372036854775807
def mapE (E : Post) : List (Value × D) := E.map fun p => (k2 p.1, .vec 1 p.2.length (intsF p.2))
theorem famE_frz (E : Post) : famE E = (E.map fun p => ((k2 p.1, p.2.length, intsF p.2) : Value × Nat × (Nat → Nat → D))).map fun p => (p.1, .sl 0 0 p.2.1, [.rows 3 1 p.2.1 p.2.2]) := by unfold famE; rw [List.map_map]; rfl
theorem mapE_frz (E : Post) : ((E.map fun p => ((k2 p.1, p.2.length, intsF p.2) : Value × Nat × (Nat → Nat → D))).map fun p => (p.1, D.vec 1 p.2.1 p.2.2)) = mapE E := by unfold mapE; rw [List.map_map]; rfl
theorem KM (E : Post) (k : Key) : KFind Try.prog 58 (k2 k) ((mapE E).map (·.1)) (idx2 k (keysE E)) := by
  have : (mapE E).map (·.1) = (famE E).map (·.1) := by unfold mapE famE; rw [List.map_map, List.map_map]; rfl
  rw [this]; exact KE E k
theorem look_weak (E : Post) (k : Key) : ∀ M ρ z, VR M ρ (foundS false (orZero ((idx2 k (keysE E)).bind fun j => ((mapE E)[j]?).map (·.2)) (.slice none 0 0)) ((idx2 k (keysE E)).bind fun j => ((mapE E)[j]?).map (·.2)).isSome) z → VR M ρ (intsV (getE E k)) z := by
  intro M ρ z h
  replace h : VR M ρ (orZero ((idx2 k (keysE E)).bind fun j => ((mapE E)[j]?).map (·.2)) (.slice none 0 0)) z := h
  cases hk : idx2 k (keysE E) with
  | none =>
    rw [hk] at h
    have h : VR M ρ (.d .nils) z := h
    rw [(ixe_none hk).2]
    exact h.nil_vec
  | some j =>
    rw [hk] at h
    have e : (mapE E)[j]? = some (k2 k, .vec 1 (getE E k).length (intsF (getE E k))) := by unfold mapE; rw [List.getElem?_map, (ixe_some hk).1]; rfl
    rw [Option.bind_some, e] at h
    exact h
theorem mat_key {M : Imm} {ρ : Names} {a b : ByteArray} {u : Value} (h : VR M ρ (.agg [.d (.val (.string a)), .d (.val (.string b))]) u) : u = k2 (a, b) := agg2_val h
section
variable {C : Ctx} {ops : List Oper} {i : Nat} {o : Oper} {l : List Oper} {t : Nat → SV} {h h' : Heap} {nx : Nat} {K : St → Prop} {acc : List FP} {ty kt el : TypeId} {y z q : Operand} {ok : Bool} {n : Nat} {es : List (Value × D)} {key : Value} {zl : Value}
theorem dLookW (u' : SV) (r : Option Nat) (rd : Option D) (hr : KFind C.P kt key (es.map (·.1)) r) (hrd : rd = r.bind fun j => (es[j]?).map (·.2)) (hw : ∀ M ρ z, VR M ρ (foundS ok (orZero rd zl) rd.isSome) z → VR M ρ u' z) (d nm i' : Nat) (hi : i + 1 = i') (hnm : nx + 8 * i = nm) (hg : o.guard = none) (hdst : o.dst = some d) (hd : Nat.blt d C.sz = true) (ho : o.op = .lookup ty y z ok)
    (ht : C.P.underlying ty = some (.map kt el)) (hy : opv C t y = .map n) (hz : ∀ M ρ u, VR M ρ (opv C t z) u → u = key) (hn : h n = some (.map es)) (hzl : (C.P.info? el).bind (·.zero) = some zl) (h1 : zl.oneCell' = true)
    (k : wops C ops i' l ⟨upd t d u', h, nx⟩ (some (acc ++ [([n], [])])) K) : wops C ops i (o :: l) ⟨t, h, nx⟩ (some acc) K := by
  subst hi; subst hnm
  refine st_ok (σ := ⟨t, h, nx⟩) hg (by unfold dstOK; rw [hdst]; exact hd) ((lookM_ok ho ht hy hz hr hzl h1 hrd).weaken hw) (fun p hp => by rw [List.mem_singleton.1 hp]; exact hn) rfl ?_
  unfold St.app; rw [hdst]; exact k
end

end Go.Proofs.Ytlhncpbcbpdcfaa.Nice
