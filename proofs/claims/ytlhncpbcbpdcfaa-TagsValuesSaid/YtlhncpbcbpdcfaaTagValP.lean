/- The values of a key: plain facts. -/
import Derived.Test.YtlhncpbcbpdcfaaTagSelP
import Derived.Sort.KeysCollected
namespace Go.Proofs.Ytlhncpbcbpdcfaa.Nice
open Go
set_option linter.unusedVariables false
set_option linter.unusedSimpArgs false
set_option maxRecDepth 100000
set_option maxHeartbeats 4000000
abbrev Str := List UInt8
def ofB (b : ByteArray) : Str := b.data.toList
def toB (v : Str) : ByteArray := ⟨v.toArray⟩
theorem toB_ofB (b : ByteArray) : toB (ofB b) = b := by
  obtain ⟨d⟩ := b; simp [toB, ofB]
theorem ofB_toB (v : Str) : ofB (toB v) = v := by simp [toB, ofB]
theorem ofB_inj {a b : ByteArray} (h : ofB a = ofB b) : a = b := by rw [← toB_ofB a, h, toB_ofB]
theorem ofB_list (b : ByteArray) : b.toList = ofB b := ByteArray.toList_eq b
theorem ofB_nil {b : ByteArray} : ofB b = [] ↔ b = ⟨#[]⟩ := by
  constructor
  · intro h; rw [← toB_ofB b, h]; rfl
  · rintro rfl; rfl
/- counting -/
abbrev CL := List (ByteArray × Int)
def relE (key : ByteArray) (p : Key × List Int) : Bool := decide (p.1.1 = key) && decide (¬ p.1.2 = ⟨#[]⟩)
def oneE (key : ByteArray) (p : Key × List Int) : Option (ByteArray × Int) := if relE key p = true then some (p.1.2, (p.2.length : Int)) else none
def cnts (E : Post) (key : ByteArray) (seen : List Nat) : CL := seen.filterMap fun j => (E[j]?).bind (oneE key)
theorem cnts_snoc (E : Post) (key : ByteArray) (seen : List Nat) (j : Nat) : cnts E key (seen ++ [j]) = cnts E key seen ++ ((E[j]?).bind (oneE key)).toList := by
  unfold cnts
  rw [List.filterMap_append]
  refine congrArg _ ?_
  cases h : (E[j]?).bind (oneE key) <;> simp [h]
def cE (l : CL) : List (Value × D) := l.map fun p => (.string p.1, .val (.int .i64 p.2))
theorem beqB {a b : ByteArray} : (a == b) = true ↔ a = b := by
  rw [beq_toListBytes, beq_iff_eq]; exact str_eq.symm
def clook : CL → ByteArray → Option Int
  | [], _ => none
  | p :: r, k => if (k == p.1) = true then some p.2 else clook r k
theorem mfind_cE (s : ByteArray) : ∀ l, mfind .string (.string s) (cE l) = some ((clook l s).map fun n => .val (.int .i64 n))
  | [] => rfl
  | p :: r => by
    simp only [cE, List.map_cons, mfind, Instr.sameNow, clook]
    cases h : s == p.1 with
    | true => simp
    | false => simpa [cE] using mfind_cE s r
theorem clook_none {l : CL} {k : ByteArray} (h : ∀ p, p ∈ l → ¬ k = p.1) : clook l k = none := by
  induction l with
  | nil => rfl
  | cons p r ih =>
    unfold clook
    rw [if_neg (by rw [beqB]; exact h p (List.mem_cons_self ..)), ih fun q hq => h q (List.mem_cons_of_mem _ hq)]
theorem clook_some {l : CL} {p : ByteArray × Int} (hn : (l.map (·.1)).Nodup) (h : p ∈ l) : clook l p.1 = some p.2 := by
  induction l with
  | nil => cases h
  | cons q r ih =>
    rw [List.map_cons, List.nodup_cons] at hn
    unfold clook
    rcases List.mem_cons.1 h with rfl | h
    · rw [if_pos (by rw [beqB])]
    · rw [if_neg, ih hn.2 h]
      rw [beqB]; intro e
      exact hn.1 (by rw [← e]; exact List.mem_map_of_mem h)
theorem cE_snoc (l : CL) (p : ByteArray × Int) : cE l ++ [(.string p.1, .val (.int .i64 p.2))] = cE (l ++ [p]) := by simp [cE]
/- the index's keys are told once, no list is empty -/
theorem keys_push : ∀ (E : Post) (k : Key) (x : Int), (k ∈ keysE E → keysE (pushE E k x) = keysE E) ∧ (¬ k ∈ keysE E → keysE (pushE E k x) = keysE E ++ [k])
  | [], k, x => ⟨fun h => absurd h List.not_mem_nil, fun _ => rfl⟩
  | p :: E, k, x => by
    obtain ⟨i1, i2⟩ := keys_push E k x
    simp only [pushE]
    by_cases e : k = p.1
    · rw [if_pos e]
      subst e
      exact ⟨fun _ => rfl, fun h => absurd (List.mem_cons_self ..) h⟩
    · rw [if_neg e]
      refine ⟨fun h => ?_, fun h => ?_⟩
      · rcases List.mem_cons.1 h with h | h
        · exact absurd h e
        · exact congrArg (p.1 :: ·) (i1 h)
      · exact congrArg (p.1 :: ·) (i2 fun hk => h (List.mem_cons_of_mem _ hk))
theorem nodup_push {E : Post} (h : (keysE E).Nodup) (k : Key) (x : Int) : (keysE (pushE E k x)).Nodup := by
  by_cases hk : k ∈ keysE E
  · rw [(keys_push E k x).1 hk]; exact h
  · rw [(keys_push E k x).2 hk]
    exact List.nodup_append.2 ⟨h, by simp, fun a ha b hb => by rw [List.mem_singleton.1 hb]; rintro rfl; exact hk ha⟩
theorem nodup_L (l : List TagD) (i : Int) {E : Post} (h : (keysE E).Nodup) : ∀ n, (keysE (idxL l i n E)).Nodup
  | 0 => h
  | n + 1 => nodup_push (nodup_push (nodup_L l i h n) _ _) _ _
theorem nodup_S (ss : List (List TagD)) : ∀ i, (keysE (idxS ss i)).Nodup
  | 0 => List.nodup_nil
  | i + 1 => nodup_L _ _ (nodup_S ss i) _
def Full (E : Post) : Prop := ∀ p, p ∈ E → p.2 ≠ []
theorem full_push {k : Key} {x : Int} : ∀ {E : Post}, Full E → Full (pushE E k x)
  | [], h => by intro p hp; simp only [pushE, List.mem_singleton] at hp; subst hp; simp
  | q :: E, h => by
    intro p hp
    simp only [pushE] at hp
    by_cases e : k = q.1
    · rw [if_pos e] at hp
      rcases List.mem_cons.1 hp with rfl | hp
      · simp
      · exact h p (List.mem_cons_of_mem _ hp)
    · rw [if_neg e] at hp
      rcases List.mem_cons.1 hp with rfl | hp
      · exact h p (List.mem_cons_self ..)
      · exact full_push (fun p hp => h p (List.mem_cons_of_mem _ hp)) p hp
theorem full_L (l : List TagD) (i : Int) {E : Post} (h : Full E) : ∀ n, Full (idxL l i n E)
  | 0 => h
  | n + 1 => full_push (full_push (full_L l i h n))
theorem full_S (ss : List (List TagD)) : ∀ i, Full (idxS ss i)
  | 0 => fun p hp => by cases hp
  | i + 1 => full_L _ _ (full_S ss i) _
theorem getE_mem : ∀ {E : Post} {p : Key × List Int}, (keysE E).Nodup → p ∈ E → getE E p.1 = p.2
  | [], p, _, h => by cases h
  | q :: E, p, hn, h => by
    unfold keysE at hn
    rw [List.map_cons, List.nodup_cons] at hn
    unfold getE
    rcases List.mem_cons.1 h with rfl | h
    · rw [if_pos rfl]
    · rw [if_neg, getE_mem hn.2 h]
      intro e
      exact hn.1 (by rw [← e]; exact List.mem_map_of_mem h)
theorem getE_ne : ∀ {E : Post} {k : Key}, getE E k ≠ [] → ∃ p, p ∈ E ∧ p.1 = k
  | [], k, h => absurd rfl h
  | q :: E, k, h => by
    unfold getE at h
    by_cases e : k = q.1
    · exact ⟨q, List.mem_cons_self .., e.symm⟩
    · rw [if_neg e] at h
      obtain ⟨p, h1, h2⟩ := getE_ne h
      exact ⟨p, List.mem_cons_of_mem _ h1, h2⟩
/- what the map of counts holds -/
theorem mem_cnts {E : Post} {key : ByteArray} {seen : List Nat} {c : ByteArray × Int} : c ∈ cnts E key seen ↔ ∃ j, j ∈ seen ∧ ∃ p, E[j]? = some p ∧ p.1.1 = key ∧ ¬ p.1.2 = ⟨#[]⟩ ∧ c = (p.1.2, (p.2.length : Int)) := by
  unfold cnts
  rw [List.mem_filterMap]
  constructor
  · rintro ⟨j, hj, h⟩
    obtain ⟨p, hp, h⟩ := Option.bind_eq_some_iff.1 h
    unfold oneE at h
    split at h
    · next hr =>
      unfold relE at hr
      rw [Bool.and_eq_true, decide_eq_true_eq, decide_eq_true_eq] at hr
      cases h
      exact ⟨j, hj, p, hp, hr.1, hr.2, rfl⟩
    · cases h
  · rintro ⟨j, hj, p, hp, h1, h2, rfl⟩
    refine ⟨j, hj, ?_⟩
    rw [hp, Option.bind_some]
    unfold oneE relE
    rw [if_pos]
    rw [Bool.and_eq_true, decide_eq_true_eq, decide_eq_true_eq]
    exact ⟨h1, h2⟩
theorem key_at {E : Post} (hn : (keysE E).Nodup) {j j' : Nat} {p p' : Key × List Int} (h : E[j]? = some p) (h' : E[j']? = some p') (e : p.1 = p'.1) : j = j' := by
  have a : (keysE E)[j]? = some p.1 := by unfold keysE; rw [List.getElem?_map, h]; rfl
  have b : (keysE E)[j']? = some p.1 := by unfold keysE; rw [List.getElem?_map, h', e]; rfl
  exact (List.getElem?_inj (List.getElem?_eq_some_iff.1 a).1 hn).1 (a.trans b.symm)
theorem cnts_fresh {E : Post} (hn : (keysE E).Nodup) {key : ByteArray} {seen : List Nat} {j : Nat} {p : Key × List Int} (hp : E[j]? = some p) (hk : p.1.1 = key) (hj : j ∉ seen) : ∀ c, c ∈ cnts E key seen → ¬ p.1.2 = c.1 := by
  rintro c hc e
  obtain ⟨j', hj', p', h1, h2, _, rfl⟩ := mem_cnts.1 hc
  have : j = j' := key_at hn hp h1 (Prod.ext (hk.trans h2.symm) e)
  exact hj (this ▸ hj')
theorem cnts_nodup {E : Post} (hn : (keysE E).Nodup) (key : ByteArray) {seen : List Nat} (hs : seen.Nodup) : ((cnts E key seen).map (·.1)).Nodup := by
  unfold cnts
  rw [List.map_filterMap]
  refine List.pairwise_filterMap.2 (hs.imp fun {a a'} hne b h b' h' e0 => hne ?_)
  subst e0
  simp only [Option.map_eq_some_iff] at h h'
  obtain ⟨c, h1, rfl⟩ := h
  obtain ⟨c', h1', e⟩ := h'
  obtain ⟨p, hp, h2⟩ := Option.bind_eq_some_iff.1 h1
  obtain ⟨p', hp', h2'⟩ := Option.bind_eq_some_iff.1 h1'
  unfold oneE at h2 h2'
  split at h2
  · next hr =>
    split at h2'
    · next hr' =>
      unfold relE at hr hr'
      rw [Bool.and_eq_true, decide_eq_true_eq, decide_eq_true_eq] at hr hr'
      cases h2; cases h2'
      exact key_at hn hp hp' (Prod.ext (hr.1.trans hr'.1.symm) e.symm)
    · cases h2'
  · cases h2
theorem cnts_len (E : Post) (key : ByteArray) (seen : List Nat) : (cnts E key seen).length ≤ seen.length := List.length_filterMap_le _ _
theorem seen_len {L : Nat} {seen : List Nat} (hs : seen.Nodup) (hl : ∀ j, j ∈ seen → j < L) : seen.length ≤ L := by
  induction L generalizing seen with
  | zero =>
    cases seen with
    | nil => exact Nat.le_refl _
    | cons a r => exact absurd (hl a (List.mem_cons_self ..)) (by omega)
  | succ L ih =>
    have h1 := ih (seen := seen.erase L) (hs.erase L) fun j hj => by
      obtain ⟨h2, h3⟩ := (hs.mem_erase_iff).1 hj
      have := hl j h3
      omega
    have h2 := List.le_length_erase (a := L) (l := seen)
    omega
theorem seen_perm {L : Nat} {seen : List Nat} (hs : seen.Nodup) (hl : ∀ j, j ∈ seen → j < L) (ha : ∀ j, j < L → j ∈ seen) : seen.Perm (List.range L) :=
  (List.perm_ext_iff_of_nodup hs List.nodup_range).2 fun j => ⟨fun h => List.mem_range.2 (hl j h), fun h => ha j (List.mem_range.1 h)⟩
/- the values in order -/
def valsL (E : Post) (key : ByteArray) : List Str := ((cnts E key (List.range E.length)).map fun p => ofB p.1).mergeSort leB
theorem vals_of {E : Post} {key : ByteArray} {seen : List Nat} (h : seen.Perm (List.range E.length)) : ((cnts E key seen).map fun p => ofB p.1).mergeSort leB = valsL E key :=
  mergeSort_of_perm ((h.filterMap _).map _)
def cntE (E : Post) (key : ByteArray) (v : Str) : Int := ((getE E (key, toB v)).length : Int)
theorem mem_vals {E : Post} (hn : (keysE E).Nodup) (hf : Full E) (key : ByteArray) (v : Str) : v ∈ valsL E key ↔ ¬ v = [] ∧ getE E (key, toB v) ≠ [] := by
  unfold valsL
  rw [(List.mergeSort_perm _ _).mem_iff, List.mem_map]
  constructor
  · rintro ⟨c, hc, rfl⟩
    obtain ⟨j, hj, p, hp, h1, h2, rfl⟩ := mem_cnts.1 hc
    have hpE := List.mem_of_getElem? hp
    refine ⟨fun e => h2 (ofB_nil.1 e), ?_⟩
    show getE E (key, toB (ofB p.1.2)) ≠ []
    rw [toB_ofB, show (key, p.1.2) = p.1 from Prod.ext h1.symm rfl, getE_mem hn hpE]
    exact hf p hpE
  · rintro ⟨h1, h2⟩
    obtain ⟨p, hp, e⟩ := getE_ne h2
    obtain ⟨j, hj⟩ := List.mem_iff_getElem?.1 hp
    refine ⟨(p.1.2, (p.2.length : Int)), mem_cnts.2 ⟨j, List.mem_range.2 (List.getElem?_eq_some_iff.1 hj).1, p, hj, by rw [e], ?_, rfl⟩, ?_⟩
    · rw [e]; intro h; exact h1 (by rw [← ofB_toB v]; exact ofB_nil.2 h)
    · show ofB p.1.2 = v
      rw [e]; exact ofB_toB v
theorem le_tr : ∀ a b c : Str, leB a b = true → leB b c = true → leB a c = true := fun a b c h1 h2 => by simp only [leB, decide_eq_true_eq] at *; exact List.le_trans h1 h2
theorem le_to : ∀ a b : Str, (leB a b || leB b a) = true := fun a b => by simp only [leB, Bool.or_eq_true, decide_eq_true_eq]; exact List.le_total a b
theorem vals_nodup {E : Post} (hn : (keysE E).Nodup) (key : ByteArray) : (valsL E key).Nodup := by
  unfold valsL
  rw [(List.mergeSort_perm _ _).nodup_iff]
  have := cnts_nodup hn key (List.nodup_range (n := E.length))
  have h2 : ((cnts E key (List.range E.length)).map fun p => ofB p.1) = ((cnts E key (List.range E.length)).map (·.1)).map ofB := by rw [List.map_map]; rfl
  rw [h2]
  exact List.pairwise_map.2 (this.imp fun h e => h (ofB_inj e))
theorem vals_asc {E : Post} (hn : (keysE E).Nodup) (key : ByteArray) : (valsL E key).Pairwise (· < ·) := by
  have h1 : (valsL E key).Pairwise (fun a b => leB a b = true) := List.pairwise_mergeSort le_tr le_to _
  have h2 := vals_nodup hn key
  refine (h1.and h2).imp fun {a b} h => ?_
  obtain ⟨h3, h4⟩ := h
  simp only [leB, decide_eq_true_eq] at h3
  exact Classical.byContradiction fun h5 => h4 (List.le_antisymm h3 (List.not_lt.1 h5))
theorem vals_len {E : Post} (key : ByteArray) : (valsL E key).length ≤ E.length := by
  unfold valsL
  rw [List.length_mergeSort, List.length_map]
  exact Nat.le_trans (cnts_len _ _ _) (by rw [List.length_range]; exact Nat.le_refl _)
/-- A look-up in the counts gives the number of places. -/
theorem look_vals {E : Post} (hn : (keysE E).Nodup) {key : ByteArray} {seen : List Nat} (hs : seen.Perm (List.range E.length)) {v : Str} (hv : v ∈ valsL E key) : clook (cnts E key seen) (toB v) = some (cntE E key v) := by
  have hv2 := hv
  rw [← vals_of hs, (List.mergeSort_perm _ _).mem_iff, List.mem_map] at hv
  obtain ⟨c, hc, rfl⟩ := hv
  have hnd := cnts_nodup hn key (hs.nodup_iff.2 List.nodup_range)
  obtain ⟨j, hj, p, hp, h1, h2, rfl⟩ := mem_cnts.1 hc
  have := clook_some hnd hc
  show clook (cnts E key seen) (toB (ofB p.1.2)) = some (cntE E key (ofB p.1.2))
  rw [toB_ofB, this]
  unfold cntE
  rw [toB_ofB, show (key, p.1.2) = p.1 from Prod.ext h1.symm rfl, getE_mem hn (List.mem_of_getElem? hp)]
/- the document's lists -/
abbrev RList := List (Str × Int)
def insP (v : Str) : RList → RList
  | [] => [(v, 1)]
  | p :: r => if p.1 < v then p :: insP v r else if p.1 = v then (v, p.2 + 1) :: r else (v, 1) :: p :: r
def rlD : Str × Int := ([], 0)
theorem ins_at {v : Str} : ∀ {r : RList} {n : Nat}, (∀ j, j < n → (r.getD j rlD).1 < v) → n < r.length → (r.getD n rlD).1 = v → insP v r = r.set n (v, (r.getD n rlD).2 + 1)
  | [], n, _, h, _ => by simp at h
  | p :: r, 0, _, _, e => by
    have e : p.1 = v := e
    unfold insP
    rw [if_neg (by rw [e]; exact List.lt_irrefl _), if_pos e]; rfl
  | p :: r, n + 1, h, hl, e => by
    unfold insP
    rw [if_pos (show p.1 < v from h 0 (by omega)), ins_at (n := n) (fun j hj => h (j + 1) (by omega)) (by simpa using hl) e]; rfl
theorem ins_new {v : Str} : ∀ {r : RList} {n : Nat}, (∀ j, j < n → (r.getD j rlD).1 < v) → n ≤ r.length → (n < r.length → ¬ (r.getD n rlD).1 < v ∧ ¬ (r.getD n rlD).1 = v) → insP v r = r.take n ++ (v, 1) :: r.drop n
  | [], n, _, h, _ => by obtain rfl : n = 0 := by simpa using h
                         rfl
  | p :: r, 0, _, _, e => by
    obtain ⟨e1, e2⟩ := e (by simp)
    have e1 : ¬ p.1 < v := e1
    have e2 : ¬ p.1 = v := e2
    unfold insP
    rw [if_neg e1, if_neg e2]; rfl
  | p :: r, n + 1, h, hl, e => by
    unfold insP
    rw [if_pos (show p.1 < v from h 0 (by omega)), ins_new (n := n) (fun j hj => h (j + 1) (by omega)) (by simpa using hl) (fun h => e (by simpa using h))]; rfl
theorem ins_len (v : Str) : ∀ r : RList, (insP v r).length ≤ r.length + 1
  | [] => by simp [insP]
  | p :: r => by
    have := ins_len v r
    unfold insP
    split
    · simp only [List.length_cons]; omega
    · split <;> simp
def refL (l : List TagD) (key : ByteArray) : Nat → RList → RList
  | 0, r => r
  | n + 1, r => if (l.getD n default).key = key then insP (ofB (l.getD n default).val) (refL l key n r) else refL l key n r
def refS (ss : List (List TagD)) (key : ByteArray) : Nat → RList
  | 0 => []
  | i + 1 => refL (ss.getD i []) key (ss.getD i []).length (refS ss key i)
theorem refL_len (l : List TagD) (key : ByteArray) (r : RList) : ∀ n, (refL l key n r).length ≤ r.length + n
  | 0 => Nat.le_refl _
  | n + 1 => by
    have := refL_len l key r n
    have := ins_len (ofB (l.getD n default).val) (refL l key n r)
    unfold refL
    split <;> omega
theorem refS_len {ss : List (List TagD)} (hl : ∀ i, i < ss.length → (ss.getD i []).length ≤ 6) (key : ByteArray) : ∀ i, i ≤ ss.length → (refS ss key i).length ≤ 6 * i
  | 0, _ => by simp [refS]
  | i + 1, hi => by
    have h1 := refS_len hl key i (by omega)
    have h2 := refL_len (ss.getD i []) key (refS ss key i) (ss.getD i []).length
    have h3 := hl i (by omega)
    unfold refS; omega
structure InvR (key : ByteArray) (r : RList) (E : Post) : Prop where
  asc : r.Pairwise fun a b => a.1 < b.1
  cnt : ∀ p, p ∈ r → ¬ p.1 = [] ∧ p.2 = cntE E key p.1 ∧ getE E (key, toB p.1) ≠ []
  all : ∀ v : Str, ¬ v = [] → getE E (key, toB v) ≠ [] → ∃ p, p ∈ r ∧ p.1 = v
theorem mem_ins (v : Str) : ∀ (r : RList) (p : Str × Int), r.Pairwise (fun a b => a.1 < b.1) → p ∈ insP v r → (p ∈ r ∧ ¬ p.1 = v) ∨ (p.1 = v ∧ ((∃ q, q ∈ r ∧ q.1 = v ∧ p.2 = q.2 + 1) ∨ ((∀ q, q ∈ r → ¬ q.1 = v) ∧ p.2 = 1)))
  | [], p, _, h => by
    simp only [insP, List.mem_singleton] at h; subst h
    exact .inr ⟨rfl, .inr ⟨fun q hq => (by cases hq), rfl⟩⟩
  | q :: r, p, hp, h => by
    rw [List.pairwise_cons] at hp
    unfold insP at h
    by_cases h1 : q.1 < v
    · rw [if_pos h1] at h
      have hq : ¬ q.1 = v := fun e => List.lt_irrefl v (e ▸ h1)
      rcases List.mem_cons.1 h with rfl | h
      · exact .inl ⟨List.mem_cons_self .., hq⟩
      · rcases mem_ins v r p hp.2 h with ⟨a, b⟩ | ⟨a, ⟨q', b, c⟩ | ⟨b, c⟩⟩
        · exact .inl ⟨List.mem_cons_of_mem _ a, b⟩
        · exact .inr ⟨a, .inl ⟨q', List.mem_cons_of_mem _ b, c⟩⟩
        · refine .inr ⟨a, .inr ⟨fun q' hq' => ?_, c⟩⟩
          rcases List.mem_cons.1 hq' with rfl | hq'
          · exact hq
          · exact b q' hq'
    · rw [if_neg h1] at h
      by_cases h2 : q.1 = v
      · rw [if_pos h2] at h
        rcases List.mem_cons.1 h with rfl | h
        · exact .inr ⟨rfl, .inl ⟨q, List.mem_cons_self .., h2, rfl⟩⟩
        · refine .inl ⟨List.mem_cons_of_mem _ h, fun e => ?_⟩
          have := hp.1 p h
          rw [h2, e] at this
          exact List.lt_irrefl _ this
      · rw [if_neg h2] at h
        have hlt : v < q.1 := Classical.byContradiction fun h3 => h2 (List.le_antisymm (List.not_lt.1 h3) (List.not_lt.1 h1))
        have hno : ∀ q', q' ∈ q :: r → ¬ q'.1 = v := by
          intro q' hq' e
          rcases List.mem_cons.1 hq' with rfl | hq'
          · exact h2 e
          · have := hp.1 q' hq'
            rw [e] at this
            exact List.lt_irrefl _ (List.lt_trans hlt this)
        rcases List.mem_cons.1 h with rfl | h
        · exact .inr ⟨rfl, .inr ⟨hno, rfl⟩⟩
        · exact .inl ⟨h, hno p h⟩
theorem ins_mem (v : Str) : ∀ (r : RList) (u : Str), (u = v ∨ ∃ p, p ∈ r ∧ p.1 = u) → ∃ p, p ∈ insP v r ∧ p.1 = u
  | [], u, h => by
    rcases h with rfl | ⟨p, hp, _⟩
    · exact ⟨(u, 1), by simp [insP], rfl⟩
    · cases hp
  | q :: r, u, h => by
    unfold insP
    by_cases h1 : q.1 < v
    · rw [if_pos h1]
      have ih := ins_mem v r u
      rcases h with rfl | ⟨p, hp, e⟩
      · obtain ⟨p, h2, h3⟩ := ih (.inl rfl)
        exact ⟨p, List.mem_cons_of_mem _ h2, h3⟩
      · rcases List.mem_cons.1 hp with rfl | hp
        · exact ⟨p, List.mem_cons_self .., e⟩
        · obtain ⟨p', h2, h3⟩ := ih (.inr ⟨p, hp, e⟩)
          exact ⟨p', List.mem_cons_of_mem _ h2, h3⟩
    · rw [if_neg h1]
      by_cases h2 : q.1 = v
      · rw [if_pos h2]
        rcases h with rfl | ⟨p, hp, e⟩
        · exact ⟨_, List.mem_cons_self .., rfl⟩
        · rcases List.mem_cons.1 hp with rfl | hp
          · exact ⟨_, List.mem_cons_self .., h2.symm.trans e⟩
          · exact ⟨p, List.mem_cons_of_mem _ hp, e⟩
      · rw [if_neg h2]
        rcases h with rfl | ⟨p, hp, e⟩
        · exact ⟨_, List.mem_cons_self .., rfl⟩
        · exact ⟨p, List.mem_cons_of_mem _ hp, e⟩
theorem ins_asc (v : Str) : ∀ {r : RList}, r.Pairwise (fun a b => a.1 < b.1) → (insP v r).Pairwise fun a b => a.1 < b.1
  | [], _ => by simp [insP]
  | q :: r, h => by
    have hh := h
    rw [List.pairwise_cons] at h
    unfold insP
    by_cases h1 : q.1 < v
    · rw [if_pos h1, List.pairwise_cons]
      refine ⟨fun p hp => ?_, ins_asc v h.2⟩
      rcases mem_ins v r p h.2 hp with ⟨a, _⟩ | ⟨a, _⟩
      · exact h.1 p a
      · rw [a]; exact h1
    · rw [if_neg h1]
      by_cases h2 : q.1 = v
      · rw [if_pos h2, List.pairwise_cons]
        exact ⟨fun p hp => by have := h.1 p hp; rw [h2] at this; exact this, h.2⟩
      · rw [if_neg h2, List.pairwise_cons]
        have hlt : v < q.1 := Classical.byContradiction fun h3 => h2 (List.le_antisymm (List.not_lt.1 h3) (List.not_lt.1 h1))
        refine ⟨fun p hp => ?_, hh⟩
        rcases List.mem_cons.1 hp with rfl | hp
        · exact hlt
        · exact List.lt_trans hlt (h.1 p hp)
theorem get_two (E : Post) (t : TagD) (i : Int) (key : ByteArray) (v : Str) (hv : ¬ v = []) : getE (pushE (pushE E (kv t) i) (k0 t) i) (key, toB v) = if t.key = key ∧ ofB t.val = v then getE E (key, toB v) ++ [i] else getE E (key, toB v) := by
  have h0 : ¬ (key, toB v) = k0 t := fun e => hv (by rw [← ofB_toB v]; exact ofB_nil.2 (congrArg Prod.snd e))
  have h1 : ((key, toB v) = kv t) ↔ (t.key = key ∧ ofB t.val = v) := by
    unfold kv
    rw [Prod.mk.injEq]
    constructor
    · rintro ⟨a, b⟩; exact ⟨a.symm, by rw [← b]; exact ofB_toB v⟩
    · rintro ⟨a, b⟩; exact ⟨a.symm, by rw [← b]; exact toB_ofB _⟩
  rw [get_push, if_neg h0, get_push]
  by_cases h : (key, toB v) = kv t
  · rw [if_pos h, if_pos (h1.1 h)]
  · rw [if_neg h, if_neg fun e => h (h1.2 e)]
theorem inv_step {key : ByteArray} {r : RList} {E : Post} (H : InvR key r E) (t : TagD) (i : Int) (ht : ¬ ofB t.val = []) : InvR key (if t.key = key then insP (ofB t.val) r else r) (pushE (pushE E (kv t) i) (k0 t) i) := by
  by_cases hk : t.key = key
  · rw [if_pos hk]
    have hg : ∀ v : Str, ¬ v = [] → getE (pushE (pushE E (kv t) i) (k0 t) i) (key, toB v) = if ofB t.val = v then getE E (key, toB v) ++ [i] else getE E (key, toB v) := by
      intro v hv
      rw [get_two E t i key v hv]
      simp [hk]
    refine ⟨ins_asc _ H.asc, fun p hp => ?_, fun v hv h => ?_⟩
    · rcases mem_ins _ r p H.asc hp with ⟨a, b⟩ | ⟨a, ⟨q, b, c, d⟩ | ⟨b, c⟩⟩
      · obtain ⟨h1, h2, h3⟩ := H.cnt p a
        have e := hg p.1 h1
        rw [if_neg (Ne.symm b)] at e
        exact ⟨h1, by unfold cntE; rw [e]; exact h2, by rw [e]; exact h3⟩
      · have hp1 : ¬ p.1 = [] := by rw [a]; exact ht
        have e := hg p.1 hp1
        rw [if_pos a.symm] at e
        refine ⟨hp1, ?_, by rw [e]; simp⟩
        obtain ⟨h1, h2, h3⟩ := H.cnt q b
        unfold cntE
        rw [e, List.length_append, d, h2]
        unfold cntE
        rw [c, a]; simp
      · have hp1 : ¬ p.1 = [] := by rw [a]; exact ht
        have e := hg p.1 hp1
        rw [if_pos a.symm] at e
        refine ⟨hp1, ?_, by rw [e]; simp⟩
        have h0 : getE E (key, toB p.1) = [] := by
          apply Classical.byContradiction; intro h
          obtain ⟨q, h1, h2⟩ := H.all p.1 hp1 h
          exact b q h1 (h2.trans a)
        unfold cntE
        rw [e, h0, c]; rfl
    · apply ins_mem
      rw [hg v hv] at h
      by_cases e : ofB t.val = v
      · exact .inl e.symm
      · rw [if_neg e] at h
        exact .inr (H.all v hv h)
  · rw [if_neg hk]
    have hg : ∀ v : Str, ¬ v = [] → getE (pushE (pushE E (kv t) i) (k0 t) i) (key, toB v) = getE E (key, toB v) := by
      intro v hv
      rw [get_two E t i key v hv, if_neg fun h => hk h.1]
    refine ⟨H.asc, fun p hp => ?_, fun v hv h => ?_⟩
    · obtain ⟨h1, h2, h3⟩ := H.cnt p hp
      have e := hg p.1 h1
      exact ⟨h1, by unfold cntE; rw [e]; exact h2, by rw [e]; exact h3⟩
    · rw [hg v hv] at h; exact H.all v hv h
theorem inv_L {key : ByteArray} {l : List TagD} (hl : ∀ k, k < l.length → TagOk l k) (i : Int) {r : RList} {E : Post} (H : InvR key r E) : ∀ n, n ≤ l.length → InvR key (refL l key n r) (idxL l i n E)
  | 0, _ => H
  | n + 1, hn => inv_step (inv_L hl i H n (by omega)) _ i fun e => name_ne (hl n (by omega)).val (ofB_nil.1 e)
theorem inv_S {key : ByteArray} {ss : List (List TagD)} (hok : ∀ i, i < ss.length → SerOk ss i) : ∀ i, i ≤ ss.length → InvR key (refS ss key i) (idxS ss i)
  | 0, _ => ⟨.nil, fun p hp => (by cases hp), fun v hv h => absurd rfl h⟩
  | i + 1, hi => inv_L (hok i (by omega)).tag i (inv_S hok i (by omega)) _ (Nat.le_refl _)
/-- Both say the same. -/
theorem both_say {key : ByteArray} {ss : List (List TagD)} (hok : ∀ i, i < ss.length → SerOk ss i) :
    (refS ss key ss.length).map (·.1) = valsL (idxS ss ss.length) key ∧ (refS ss key ss.length).map (·.2) = (valsL (idxS ss ss.length) key).map (cntE (idxS ss ss.length) key) := by
  have H := inv_S (key := key) hok ss.length (Nat.le_refl _)
  have hn := nodup_S ss ss.length
  have hf := full_S ss ss.length
  have h1 : (refS ss key ss.length).map (·.1) = valsL (idxS ss ss.length) key := by
    have a1 : ((refS ss key ss.length).map (·.1)).Pairwise (· < ·) := List.pairwise_map.2 H.asc
    have a2 := vals_asc hn key
    have nd : ∀ {l : List Str}, l.Pairwise (· < ·) → l.Nodup := fun h => List.Pairwise.imp (fun {a b} (h : a < b) (e : a = b) => List.lt_irrefl b (by rw [e] at h; exact h)) h
    refine List.Perm.eq_of_pairwise (le := (· < ·)) (fun a b _ _ h1 h2 => absurd (List.lt_trans h1 h2) (List.lt_irrefl _)) a1 a2 ?_
    refine (List.perm_ext_iff_of_nodup (nd a1) (nd a2)).2 fun v => ?_
    rw [mem_vals hn hf, List.mem_map]
    constructor
    · rintro ⟨p, hp, rfl⟩
      obtain ⟨b1, b2, b3⟩ := H.cnt p hp
      exact ⟨b1, b3⟩
    · rintro ⟨b1, b2⟩; exact H.all v b1 b2
  refine ⟨h1, ?_⟩
  rw [← h1, List.map_map]
  exact List.map_congr_left fun p hp => (H.cnt p hp).2.1
end Go.Proofs.Ytlhncpbcbpdcfaa.Nice
