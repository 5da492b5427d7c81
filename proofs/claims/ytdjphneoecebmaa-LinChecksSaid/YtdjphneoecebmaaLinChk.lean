/- lin.Check and the document answer alike. -/
import Derived.Test.YtdjphneoecebmaaLinRef
namespace Go.Proofs.Ytdjphneoecebmaa.Nice
open Go
set_option linter.unusedVariables false
set_option linter.unusedSimpArgs false
set_option maxRecDepth 100000
set_option maxHeartbeats 4000000

def leftI (n m : Nat) : List Nat := (List.range n).filter fun k => !m.testBit k
def leftOf (l : List Act) (m : Nat) : List Act := (leftI l.length m).map fun k => l.getD k default
theorem range_any {α : Type} [Inhabited α] (p : α → Bool) (L : List α) : ((List.range L.length).any fun k => p (L.getD k default)) = L.any p := by
  apply Bool.eq_iff_iff.2
  rw [List.any_eq_true, List.any_eq_true]
  constructor
  · rintro ⟨k, hk, h⟩
    have := List.mem_range.1 hk
    rw [getG this] at h
    exact ⟨_, List.getElem_mem this, h⟩
  · rintro ⟨x, hx, h⟩
    obtain ⟨k, hk, rfl⟩ := List.mem_iff_getElem.1 hx
    exact ⟨k, List.mem_range.2 hk, by rw [getG hk]; exact h⟩
theorem range_all {α : Type} [Inhabited α] (p : α → Bool) (L : List α) : ((List.range L.length).all fun k => p (L.getD k default)) = L.all p := by
  rw [List.all_eq_not_any_not, List.all_eq_not_any_not, ← range_any (fun a => !p a)]
theorem must_left (l : List Act) (m : Nat) : mustTo (leftOf l m) (leftOf l m).length = !allTo l m l.length := by
  unfold mustTo
  rw [range_any (fun a : Act => !decide (a.e = -1))]
  unfold leftOf leftI allTo
  rw [List.any_map, List.any_filter, List.all_eq_not_any_not, Bool.not_not]
  congr 1; funext k
  simp only [Function.comp]
  cases m.testBit k <;> simp
theorem frst_left (l : List Act) (m i : Nat) : frstTo (leftOf l m) (l.getD i default) (leftOf l m).length = rdyTo l m i l.length := by
  unfold frstTo
  rw [range_all (fun a : Act => decide (a.e = -1) || !decide (a.e < (l.getD i default).b))]
  unfold leftOf leftI rdyTo
  rw [List.all_map, List.all_filter]
  congr 1; funext k
  simp only [Function.comp]
  cases m.testBit k <;> simp
theorem left_len (l : List Act) (m : Nat) : (leftOf l m).length = unset l.length m := by unfold leftOf leftI unset; rw [List.length_map]
theorem nodup_erase {α : Type} [DecidableEq α] : ∀ (I : List α) (i : Nat) (h : i < I.length), I.Nodup → I.eraseIdx i = I.filter fun k => !decide (I[i] = k)
  | [], i, h, _ => absurd h (Nat.not_lt_zero _)
  | a :: I, 0, h, hn => by
    obtain ⟨h1, h2⟩ := List.nodup_cons.1 hn
    show I = _
    rw [List.filter_cons_of_neg (by simp)]
    symm; apply List.filter_eq_self.2
    intro k hk
    have : a ≠ k := fun e => h1 (e ▸ hk)
    simp [this]
  | a :: I, i + 1, h, hn => by
    obtain ⟨h1, h2⟩ := List.nodup_cons.1 hn
    have hi : i < I.length := by simpa using h
    have : I[i] ≠ a := fun e => h1 (e ▸ List.getElem_mem hi)
    show a :: I.eraseIdx i = List.filter (fun k => !decide (I[i] = k)) (a :: I)
    rw [List.filter_cons_of_pos (by simp [this]), nodup_erase I i hi h2]
theorem erase_map {α β : Type} (f : α → β) : ∀ (I : List α) (i : Nat), (I.map f).eraseIdx i = (I.eraseIdx i).map f
  | [], i => rfl
  | a :: I, 0 => rfl
  | a :: I, i + 1 => by show f a :: (I.map f).eraseIdx i = f a :: (I.eraseIdx i).map f; rw [erase_map f I i]
theorem mem_left {n m k : Nat} (h : k ∈ leftI n m) : k < n ∧ m.testBit k = false := by
  unfold leftI at h
  obtain ⟨h1, h2⟩ := List.mem_filter.1 h
  exact ⟨List.mem_range.1 h1, by simpa using h2⟩
theorem left_erase {l : List Act} {m i : Nat} (h : i < (leftI l.length m).length) : (leftOf l m).eraseIdx i = leftOf l (m ||| 2 ^ (leftI l.length m)[i]) := by
  unfold leftOf
  rw [erase_map, nodup_erase _ i h (List.nodup_range.filter _)]
  congr 1
  generalize (leftI l.length m)[i] = k0
  unfold leftI
  rw [List.filter_filter]
  apply List.filter_congr
  intro k hk
  rw [or_bit]
  cases m.testBit k <;> simp
theorem Fs_ord (l : List Act) : ∀ (f m : Nat) (o : Ob), unset l.length m = f → Fs l f m o = ordB f o (leftOf l m)
  | 0, m, o, hu => by
    show allTo l m l.length = true
    unfold allTo
    rw [List.all_eq_true]
    intro k hk
    rw [unset_zero hu (List.mem_range.1 hk)]; simp
  | f + 1, m, o, hu => by
    show (allTo l m l.length || (List.range l.length).any (brn (Fs l f) l m o)) = (!mustTo (leftOf l m) (leftOf l m).length || (List.range (leftOf l m).length).any (obr (ordB f) o (leftOf l m)))
    rw [must_left, Bool.not_not]
    congr 1
    have key : ∀ i (h : i < (leftI l.length m).length), obr (ordB f) o (leftOf l m) i = brn (Fs l f) l m o (leftI l.length m)[i] := by
      intro i h
      obtain ⟨h1, h3⟩ := mem_left (List.getElem_mem h)
      have hg : (leftOf l m).getD i default = l.getD (leftI l.length m)[i] default := by
        unfold leftOf
        rw [getG (by rw [List.length_map]; exact h), List.getElem_map]
      unfold obr brn
      rw [hg, frst_left, left_erase h, h3, Fs_ord l f (m ||| 2 ^ (leftI l.length m)[i]) _ (by have := unset_or h1 h3; omega)]
      rfl
    apply Bool.eq_iff_iff.2
    rw [List.any_eq_true, List.any_eq_true]
    constructor
    · rintro ⟨k, hk, h⟩
      have hb : m.testBit k = false := by
        unfold brn at h
        cases hb : m.testBit k with
        | false => rfl
        | true => rw [hb] at h; simp at h
      have : k ∈ leftI l.length m := List.mem_filter.2 ⟨hk, by rw [hb]; rfl⟩
      obtain ⟨i, hi, rfl⟩ := List.mem_iff_getElem.1 this
      exact ⟨i, List.mem_range.2 (by unfold leftOf; rw [List.length_map]; exact hi), by rw [key i hi]; exact h⟩
    · rintro ⟨i, hi, h⟩
      have hi : i < (leftI l.length m).length := by have := List.mem_range.1 hi; unfold leftOf at this; rwa [List.length_map] at this
      rw [key i hi] at h
      exact ⟨_, List.mem_range.2 (mem_left (List.getElem_mem hi)).1, h⟩
theorem left_zero (l : List Act) : leftOf l 0 = l := by
  unfold leftOf leftI
  rw [List.filter_eq_self.2 (by intro k hk; simp)]
  apply List.ext_getElem
  · simp
  · intro i h1 h2; simp [List.getD, h2]
theorem unset_none (n : Nat) : unset n 0 = n := by
  unfold unset
  rw [List.filter_eq_self.2 (by intro k hk; simp)]; simp
theorem FF_ord (l : List Act) (o : Ob) : FF l 0 o = ordB l.length o l := by
  unfold FF
  rw [unset_none, Fs_ord l l.length 0 o (unset_none _), left_zero]
def obOf (k n : Int) : Ob := if k = 1 then .reg n else if k = 2 then .cnt n else .hp (decide (k = 4)) []
theorem obOf_1 {k n : Int} (h : k = 1) : obOf k n = .reg n := by unfold obOf; rw [if_pos h]
theorem obOf_2 {k n : Int} (h : k = 2) : obOf k n = .cnt n := by unfold obOf; rw [if_neg (by omega), if_pos h]
theorem obOf_h {k n : Int} (h : ¬ k = 1) (h2 : ¬ k = 2) : obOf k n = .hp (decide (k = 4)) [] := by unfold obOf; rw [if_neg h, if_neg h2]
theorem obOf_size (k n : Int) : osize (obOf k n) = 0 := by
  unfold obOf
  split
  · rfl
  · split <;> rfl
theorem may_in {k : Int} {l : List Act} (h : mayB k l = true) : 1 ≤ k ∧ k ≤ 4 ∧ l.length ≤ 9 := by
  unfold mayB inB at h
  simp only [Bool.and_eq_true, decide_eq_true_eq] at h
  exact ⟨h.1.1.1, h.1.1.2, h.1.2⟩
theorem obOf_kind {k n : Int} (h1 : 1 ≤ k) (h4 : k ≤ 4) : kindI (obOf k n) = k := by
  by_cases e : k = 1
  · rw [obOf_1 e, e]; rfl
  by_cases e2 : k = 2
  · rw [obOf_2 e2, e2]; rfl
  rw [obOf_h e e2]
  by_cases e3 : k = 4
  · rw [decide_eq_true e3, e3]; rfl
  · rw [decide_eq_false e3, show k = 3 by omega]; rfl
theorem ob_hp0 {M : Imm} {ρ : Names} {b : Bool} {x : Value} (h : VR M ρ (.agg [SV.b b, .d .nils]) x) : VR M ρ (objV (.hp b [])) (.iface 40 x) := by
  obtain ⟨vs, rfl, hs, hr⟩ := agg_case h
  refine ob_hp (n := 0) (f := intsF []) (.aggOf _ _ hs fun i s hi => ?_) rfl (fun _ _ _ _ => rfl)
  match i, hi with
  | 0, hi => cases hi; exact hr 0 _ rfl
  | 1, hi => cases hi; obtain ⟨u, e, r⟩ := hr 1 _ rfl; exact ⟨u, e, r.nil_vec⟩
  | n + 2, hi => simp at hi
theorem pre0 {k n : Int} {l : List Act} (h : mayB k l = true) : Pre l (okind (obOf k n)) 0 (obOf k n) l.length [] := by
  obtain ⟨h1, h2, h3⟩ := may_in h
  refine ⟨Nat.pow_pos (by omega), unset_none _, rfl, by rw [obOf_size]; omega, fun d x hm => ?_, ?_, fun d x hm => ?_⟩
  · obtain ⟨p, hp, _⟩ := hm; cases hp
  · have := T_big l.length h3
    show 0 + _ ≤ _
    omega
  · obtain ⟨p, hp, _⟩ := hm; cases hp
def linV (k n : Int) (l : List Act) : SV := .tup [SV.b (mayB k l && ordB l.length (obOf k n) l), SV.i (if mayB k l then 0 else 4)]
theorem ord_call {k n : Int} {l : List Act} (h : mayB k l = true) (X : List Int) (hX : hasOf (obOf k n) = X) : Spec Try.prog G0 14 [SV.i k, intsV X, actsV l] [] (fun r ho => r = SV.b (ordB l.length (obOf k n) l) ∧ ho = []) := by
  subst hX
  obtain ⟨h1, h2, h3⟩ := may_in h
  have := ordered_any l.length (obOf k n) l rfl (by rw [obOf_size]; omega)
  rw [obOf_kind h1 h2] at this; exact this

theorem refCheck_any (k n : Int) (l : List Act) (hl : l.length ≤ 9223372036854775807) : Spec Try.prog G0 8 [SV.i k, SV.i n, actsV l] [] (fun r ho => r = linV k n l ∧ ho = []) := by
  refine start 25 0 Try.func8 rfl rfl rfl rfl ?_
  refine r1 ?_
  refine s1 6 0 1 rfl rfl rfl rfl rfl rfl trivial ?_
  refine s1 7 8 2 rfl rfl rfl rfl rfl rfl trivial ?_
  refine e1 16 rfl ?_
  refine keep [0, 1, 2] rfl ?_
  refine W_seq ?_
  refine r1 ?_
  refine s1 9 16 1 rfl rfl rfl rfl rfl rfl trivial ?_
  refine s1 10 24 2 rfl rfl rfl rfl rfl rfl trivial ?_
  refine c1 (history_any k l hl) [] [] 11 32 3 rfl rfl rfl rfl rfl rfl rfl rfl Try.func6 rfl rfl rfl rfl trivial rfl rfl ?_
  refine s1 12 40 4 rfl rfl rfl rfl rfl rfl trivial ?_
  refine e1 48 rfl ?_
  refine keep [0, 1, 2, 12] rfl ?_
  refine q1 rfl (fun hc1 => ?_) (fun hc1 => ?_)
  · skip
    try simp only [cs, ne_eq] at hc1
    refine r1 ?_
    refine s1 6 48 1 rfl rfl rfl rfl rfl rfl trivial ?_
    refine s1 7 56 2 rfl rfl rfl rfl rfl rfl trivial ?_
    refine e1 64 rfl ?_
    refine keep [6, 7] rfl ?_
    refine W_ret ?_
    refine tr ?_
    exact out2 6 7 (SV.b (mayB k l && ordB l.length (obOf k n) l)) (SV.i (if mayB k l then 0 else 4)) (π := []) (hout := []) Try.results8 rfl rfl (by have hm : mayB k l = false := (by simpa using hc1); rw [hm]; rfl) (by have hm : mayB k l = false := (by simpa using hc1); rw [hm]; rfl) rfl rfl trivial ⟨rfl, rfl⟩
  try simp only [cs, ne_eq] at hc1
  refine W_skip ?_
  refine tn ?_
  have hm : mayB k l = true := (by simpa using hc1)
  refine r1 ?_
  refine s1 8 48 1 rfl rfl rfl rfl rfl rfl trivial ?_
  refine e1 56 rfl ?_
  refine keep [0, 1, 2, 8] rfl ?_
  refine W_seq ?_
  refine r1 ?_
  refine s1 13 56 1 rfl rfl rfl rfl rfl rfl trivial ?_
  refine s1 14 64 2 rfl rfl rfl rfl rfl rfl (by first | trivial | omega) ?_
  refine s1 15 72 3 rfl rfl rfl rfl rfl rfl trivial ?_
  refine ask 15 rfl (fun hg4_15 => ?_) (fun hg4_15 => ?_)
  · skip
    try simp only [cs, ne_eq] at hg4_15
    refine g0 2 false 15 16 4 rfl rfl rfl rfl rfl rfl ?_
    refine g0 2 false 15 17 5 rfl rfl rfl rfl rfl rfl ?_
    refine s1 18 96 6 rfl rfl rfl rfl rfl rfl trivial ?_
    refine e1 104 rfl ?_
    refine keep [0, 1, 2, 8, 18] rfl ?_
    refine q1 rfl (fun hc4 => ?_) (fun hc4 => ?_)
    · skip
      try simp only [cs, ne_eq] at hc4
      refine r0 ?_
      refine s1 19 104 1 rfl rfl rfl rfl rfl rfl trivial ?_
      refine sLit 1 (intsF [n]) 20 112 2 rfl rfl rfl rfl rfl rfl rfl rfl rfl (by intro i c hi hc; obtain rfl : i = 0 := (by omega); obtain rfl : c = 0 := (by omega); rfl) ?_
      refine s1 8 120 3 rfl rfl rfl rfl rfl rfl trivial ?_
      refine e1 128 rfl ?_
      refine tn ?_
      refine r1 ?_
      refine s1 21 128 1 rfl rfl rfl rfl rfl rfl trivial ?_
      refine s1 22 136 2 rfl rfl rfl rfl rfl rfl trivial ?_
      refine s1 23 144 3 rfl rfl rfl rfl rfl rfl trivial ?_
      refine c1 (ord_call hm [n] (by rw [obOf_1 hg4_15]; rfl)) [] [] 24 152 4 rfl rfl rfl rfl rfl rfl rfl rfl Try.func14 rfl rfl rfl rfl trivial rfl rfl ?_
      refine s1 6 160 5 rfl rfl rfl rfl rfl rfl trivial ?_
      refine s1 7 168 6 rfl rfl rfl rfl rfl rfl trivial ?_
      refine e1 176 rfl ?_
      refine keep [6, 7] rfl ?_
      refine W_ret ?_
      exact out2 6 7 (SV.b (mayB k l && ordB l.length (obOf k n) l)) (SV.i (if mayB k l then 0 else 4)) (π := []) (hout := []) Try.results8 rfl rfl (by rw [hm]; rfl) (by rw [hm]; rfl) rfl rfl trivial ⟨rfl, rfl⟩
    exact absurd hc4 (by decide)
  try simp only [cs, ne_eq] at hg4_15
  refine g1 2 false 15 16 4 rfl rfl rfl rfl rfl ?_
  refine s1 16 80 4 rfl rfl rfl rfl rfl rfl trivial ?_
  refine g1 2 false 15 17 5 rfl rfl rfl rfl rfl ?_
  refine s1 17 88 5 rfl rfl rfl rfl rfl rfl (by first | trivial | omega) ?_
  refine s1 18 96 6 rfl rfl rfl rfl rfl rfl trivial ?_
  refine e1 104 rfl ?_
  refine keep [0, 1, 2, 8, 18] rfl ?_
  refine q1 rfl (fun hc4 => ?_) (fun hc4 => ?_)
  · skip
    try simp only [cs, ne_eq] at hc4
    refine r0 ?_
    refine s1 19 104 1 rfl rfl rfl rfl rfl rfl trivial ?_
    refine sLit 1 (intsF [n]) 20 112 2 rfl rfl rfl rfl rfl rfl rfl rfl rfl (by intro i c hi hc; obtain rfl : i = 0 := (by omega); obtain rfl : c = 0 := (by omega); rfl) ?_
    refine s1 8 120 3 rfl rfl rfl rfl rfl rfl trivial ?_
    refine e1 128 rfl ?_
    refine tn ?_
    refine r1 ?_
    refine s1 21 128 1 rfl rfl rfl rfl rfl rfl trivial ?_
    refine s1 22 136 2 rfl rfl rfl rfl rfl rfl trivial ?_
    refine s1 23 144 3 rfl rfl rfl rfl rfl rfl trivial ?_
    refine c1 (ord_call hm [n] (by rw [obOf_2 hc4]; rfl)) [] [] 24 152 4 rfl rfl rfl rfl rfl rfl rfl rfl Try.func14 rfl rfl rfl rfl trivial rfl rfl ?_
    refine s1 6 160 5 rfl rfl rfl rfl rfl rfl trivial ?_
    refine s1 7 168 6 rfl rfl rfl rfl rfl rfl trivial ?_
    refine e1 176 rfl ?_
    refine keep [6, 7] rfl ?_
    refine W_ret ?_
    exact out2 6 7 (SV.b (mayB k l && ordB l.length (obOf k n) l)) (SV.i (if mayB k l then 0 else 4)) (π := []) (hout := []) Try.results8 rfl rfl (by rw [hm]; rfl) (by rw [hm]; rfl) rfl rfl trivial ⟨rfl, rfl⟩
  try simp only [cs, ne_eq] at hc4
  refine W_skip ?_
  refine tn ?_
  refine nilv 8 1 (intsF []) rfl ?_
  refine r1 ?_
  refine s1 21 104 1 rfl rfl rfl rfl rfl rfl trivial ?_
  refine s1 22 112 2 rfl rfl rfl rfl rfl rfl trivial ?_
  refine s1 23 120 3 rfl rfl rfl rfl rfl rfl trivial ?_
  refine c1 (ord_call (n := n) hm [] (by rw [obOf_h hg4_15 hc4]; rfl)) [] [] 24 128 4 rfl rfl rfl rfl rfl rfl rfl rfl Try.func14 rfl rfl rfl rfl trivial rfl rfl ?_
  refine s1 6 136 5 rfl rfl rfl rfl rfl rfl trivial ?_
  refine s1 7 144 6 rfl rfl rfl rfl rfl rfl trivial ?_
  refine e1 152 rfl ?_
  refine keep [6, 7] rfl ?_
  refine W_ret ?_
  exact out2 6 7 (SV.b (mayB k l && ordB l.length (obOf k n) l)) (SV.i (if mayB k l then 0 else 4)) (π := []) (hout := []) Try.results8 rfl rfl (by rw [hm]; rfl) (by rw [hm]; rfl) rfl rfl trivial ⟨rfl, rfl⟩

theorem check_any (k n : Int) (l : List Act) (hl : l.length ≤ 9223372036854775807) : Spec Try.prog G0 7 [SV.i k, SV.i n, actsV l] [] (fun r ho => r = linV k n l ∧ ho = []) := by
  refine start 34 0 Try.func7 rfl rfl rfl rfl ?_
  refine r1 ?_
  refine s1 6 0 1 rfl rfl rfl rfl rfl rfl trivial ?_
  refine s1 7 8 2 rfl rfl rfl rfl rfl rfl trivial ?_
  refine e1 16 rfl ?_
  refine keep [0, 1, 2] rfl ?_
  refine W_seq ?_
  refine r1 ?_
  refine s1 10 16 1 rfl rfl rfl rfl rfl rfl trivial ?_
  refine s1 11 24 2 rfl rfl rfl rfl rfl rfl trivial ?_
  refine c1 (may_any k l hl) [] [] 12 32 3 rfl rfl rfl rfl rfl rfl rfl rfl Try.func5 rfl rfl rfl rfl trivial rfl rfl ?_
  refine s1 13 40 4 rfl rfl rfl rfl rfl rfl trivial ?_
  refine e1 48 rfl ?_
  refine keep [0, 1, 2, 13] rfl ?_
  refine q1 rfl (fun hc1 => ?_) (fun hc1 => ?_)
  · skip
    try simp only [cs, ne_eq] at hc1
    refine r1 ?_
    refine s1 6 48 1 rfl rfl rfl rfl rfl rfl trivial ?_
    refine s1 7 56 2 rfl rfl rfl rfl rfl rfl trivial ?_
    refine e1 64 rfl ?_
    refine keep [6, 7] rfl ?_
    refine W_ret ?_
    refine tr ?_
    exact out2 6 7 (SV.b (mayB k l && ordB l.length (obOf k n) l)) (SV.i (if mayB k l then 0 else 4)) (π := []) (hout := []) Try.results7 rfl rfl (by have hm : mayB k l = false := (by simpa using hc1); rw [hm]; rfl) (by have hm : mayB k l = false := (by simpa using hc1); rw [hm]; rfl) rfl rfl trivial ⟨rfl, rfl⟩
  try simp only [cs, ne_eq] at hc1
  refine W_skip ?_
  refine tn ?_
  have hm : mayB k l = true := (by simpa using hc1)
  refine r1 ?_
  refine s1 8 48 1 rfl rfl rfl rfl rfl rfl trivial ?_
  refine e1 56 rfl ?_
  refine keep [0, 1, 2] rfl ?_
  refine W_seq ?_
  refine r1 ?_
  refine s1 14 56 1 rfl rfl rfl rfl rfl rfl trivial ?_
  refine e1 64 rfl ?_
  refine keep [0, 1, 2, 14] rfl ?_
  refine W_block ?_
  refine r1 ?_
  refine s1 20 64 1 rfl rfl rfl rfl rfl rfl (by first | trivial | omega) ?_
  refine s1 19 72 2 rfl rfl rfl rfl rfl rfl trivial ?_
  refine e1 80 rfl ?_
  refine keep [0, 1, 2, 14, 19] rfl ?_
  refine q1 rfl (fun hc6 => ?_) (fun hc6 => ?_)
  · skip
    try simp only [cs, ne_eq] at hc6
    refine r0 ?_
    refine s1 21 80 1 rfl rfl rfl rfl rfl rfl trivial ?_
    refine sIfc (objV (obOf k n)) 22 88 2 rfl rfl rfl rfl rfl rfl Try.underlying36 rfl rfl (fun M ρ x h => by rw [obOf_1 hc6]; exact ob_reg h) ?_
    refine s1 8 96 3 rfl rfl rfl rfl rfl rfl trivial ?_
    refine e1 104 rfl ?_
    refine bn ?_
    refine tn ?_
    refine r1 ?_
    refine s1 27 104 1 rfl rfl rfl rfl rfl rfl trivial ?_
    refine s1 28 112 2 rfl rfl rfl rfl rfl rfl trivial ?_
    refine s1 29 120 3 rfl rfl rfl rfl rfl rfl trivial ?_
    refine s1 30 128 4 rfl rfl rfl rfl rfl rfl trivial ?_
    refine s1 9 136 5 rfl rfl rfl rfl rfl rfl trivial ?_
    refine e1 144 rfl ?_
    refine keep [8, 9] rfl ?_
    refine tofam 112 rfl ?_
    refine r1 ?_
    refine s1 31 144 1 rfl rfl rfl rfl rfl rfl trivial ?_
    refine s1 32 152 2 rfl rfl rfl rfl rfl rfl trivial ?_
    refine cQ (found_any l (may_in hm).2.2 (okind (obOf k n)) l.length 0 (obOf k n) [] [] (pre0 hm)) [128, 112] 33 160 3 rfl rfl rfl rfl rfl rfl rfl Try.func13 rfl rfl rfl ⟨rfl, rfl, trivial⟩ ?_
    rintro _ _ ⟨b, Z2, E2, rfl, rfl, haf⟩
    refine val 33 (SV.b b) rfl rfl ?_
    refine s1 6 168 4 rfl rfl rfl rfl rfl rfl trivial ?_
    refine s1 7 176 5 rfl rfl rfl rfl rfl rfl trivial ?_
    refine e1 184 rfl ?_
    refine keep [6, 7] rfl ?_
    refine W_ret ?_
    exact out2 6 7 (SV.b (mayB k l && ordB l.length (obOf k n) l)) (SV.i (if mayB k l then 0 else 4)) (π := []) (hout := []) Try.results7 rfl rfl (by rw [hm, haf.hb, FF_ord]; rfl) (by rw [hm]; rfl) rfl rfl trivial ⟨rfl, rfl⟩
  try simp only [cs, ne_eq] at hc6
  refine r1 ?_
  refine s1 24 80 1 rfl rfl rfl rfl rfl rfl (by first | trivial | omega) ?_
  refine s1 23 88 2 rfl rfl rfl rfl rfl rfl trivial ?_
  refine e1 96 rfl ?_
  refine keep [0, 1, 2, 23] rfl ?_
  refine q1 rfl (fun hc8 => ?_) (fun hc8 => ?_)
  · skip
    try simp only [cs, ne_eq] at hc8
    refine r0 ?_
    refine s1 25 96 1 rfl rfl rfl rfl rfl rfl trivial ?_
    refine sIfc (objV (obOf k n)) 26 104 2 rfl rfl rfl rfl rfl rfl Try.underlying37 rfl rfl (fun M ρ x h => by rw [obOf_2 hc8]; exact ob_cnt h) ?_
    refine s1 8 112 3 rfl rfl rfl rfl rfl rfl trivial ?_
    refine e1 120 rfl ?_
    refine bn ?_
    refine tn ?_
    refine r1 ?_
    refine s1 27 120 1 rfl rfl rfl rfl rfl rfl trivial ?_
    refine s1 28 128 2 rfl rfl rfl rfl rfl rfl trivial ?_
    refine s1 29 136 3 rfl rfl rfl rfl rfl rfl trivial ?_
    refine s1 30 144 4 rfl rfl rfl rfl rfl rfl trivial ?_
    refine s1 9 152 5 rfl rfl rfl rfl rfl rfl trivial ?_
    refine e1 160 rfl ?_
    refine keep [8, 9] rfl ?_
    refine tofam 128 rfl ?_
    refine r1 ?_
    refine s1 31 160 1 rfl rfl rfl rfl rfl rfl trivial ?_
    refine s1 32 168 2 rfl rfl rfl rfl rfl rfl trivial ?_
    refine cQ (found_any l (may_in hm).2.2 (okind (obOf k n)) l.length 0 (obOf k n) [] [] (pre0 hm)) [144, 128] 33 176 3 rfl rfl rfl rfl rfl rfl rfl Try.func13 rfl rfl rfl ⟨rfl, rfl, trivial⟩ ?_
    rintro _ _ ⟨b, Z2, E2, rfl, rfl, haf⟩
    refine val 33 (SV.b b) rfl rfl ?_
    refine s1 6 184 4 rfl rfl rfl rfl rfl rfl trivial ?_
    refine s1 7 192 5 rfl rfl rfl rfl rfl rfl trivial ?_
    refine e1 200 rfl ?_
    refine keep [6, 7] rfl ?_
    refine W_ret ?_
    exact out2 6 7 (SV.b (mayB k l && ordB l.length (obOf k n) l)) (SV.i (if mayB k l then 0 else 4)) (π := []) (hout := []) Try.results7 rfl rfl (by rw [hm, haf.hb, FF_ord]; rfl) (by rw [hm]; rfl) rfl rfl trivial ⟨rfl, rfl⟩
  try simp only [cs, ne_eq] at hc8
  refine r0 ?_
  refine s1 15 96 1 rfl rfl rfl rfl rfl rfl trivial ?_
  refine s1 16 104 2 rfl rfl rfl rfl rfl rfl (by first | trivial | omega) ?_
  refine s1 17 112 3 rfl rfl rfl rfl rfl rfl trivial ?_
  refine sIfc (objV (obOf k n)) 18 120 4 rfl rfl rfl rfl rfl rfl Try.underlying40 rfl rfl (fun M ρ x h => by rw [obOf_h hc6 hc8]; exact ob_hp0 h) ?_
  refine s1 8 128 5 rfl rfl rfl rfl rfl rfl trivial ?_
  refine e1 136 rfl ?_
  refine bn ?_
  refine tn ?_
  refine r1 ?_
  refine s1 27 136 1 rfl rfl rfl rfl rfl rfl trivial ?_
  refine s1 28 144 2 rfl rfl rfl rfl rfl rfl trivial ?_
  refine s1 29 152 3 rfl rfl rfl rfl rfl rfl trivial ?_
  refine s1 30 160 4 rfl rfl rfl rfl rfl rfl trivial ?_
  refine s1 9 168 5 rfl rfl rfl rfl rfl rfl trivial ?_
  refine e1 176 rfl ?_
  refine keep [8, 9] rfl ?_
  refine tofam 144 rfl ?_
  refine r1 ?_
  refine s1 31 176 1 rfl rfl rfl rfl rfl rfl trivial ?_
  refine s1 32 184 2 rfl rfl rfl rfl rfl rfl trivial ?_
  refine cQ (found_any l (may_in hm).2.2 (okind (obOf k n)) l.length 0 (obOf k n) [] [] (pre0 hm)) [160, 144] 33 192 3 rfl rfl rfl rfl rfl rfl rfl Try.func13 rfl rfl rfl ⟨rfl, rfl, trivial⟩ ?_
  rintro _ _ ⟨b, Z2, E2, rfl, rfl, haf⟩
  refine val 33 (SV.b b) rfl rfl ?_
  refine s1 6 200 4 rfl rfl rfl rfl rfl rfl trivial ?_
  refine s1 7 208 5 rfl rfl rfl rfl rfl rfl trivial ?_
  refine e1 216 rfl ?_
  refine keep [6, 7] rfl ?_
  refine W_ret ?_
  exact out2 6 7 (SV.b (mayB k l && ordB l.length (obOf k n) l)) (SV.i (if mayB k l then 0 else 4)) (π := []) (hout := []) Try.results7 rfl rfl (by rw [hm, haf.hb, FF_ord]; rfl) (by rw [hm]; rfl) rfl rfl trivial ⟨rfl, rfl⟩

theorem linChecks_any (k n : Int) (l : List Act) (hl : l.length ≤ 9223372036854775807) : Spec Try.prog G0 4 [SV.i k, SV.i n, actsV l] [] (fun r _ => r = SV.b true) := by
  refine start 33 0 Try.func4 rfl rfl rfl rfl ?_
  refine r1 ?_
  refine s1 6 0 1 rfl rfl rfl rfl rfl rfl trivial ?_
  refine e1 8 rfl ?_
  refine keep [0, 1, 2] rfl ?_
  refine r1 ?_
  refine s1 12 8 1 rfl rfl rfl rfl rfl rfl trivial ?_
  refine s1 13 16 2 rfl rfl rfl rfl rfl rfl trivial ?_
  refine s1 14 24 3 rfl rfl rfl rfl rfl rfl trivial ?_
  refine c1 (check_any k n l hl) [] [] 15 32 4 rfl rfl rfl rfl rfl rfl rfl rfl Try.func7 rfl rfl rfl rfl trivial rfl rfl ?_
  refine s1 11 40 5 rfl rfl rfl rfl rfl rfl trivial ?_
  refine s1 16 48 6 rfl rfl rfl rfl rfl rfl trivial ?_
  refine s1 17 56 7 rfl rfl rfl rfl rfl rfl trivial ?_
  refine s1 7 64 8 rfl rfl rfl rfl rfl rfl trivial ?_
  refine s1 8 72 9 rfl rfl rfl rfl rfl rfl trivial ?_
  refine e1 80 rfl ?_
  refine keep [0, 1, 2, 7, 8] rfl ?_
  refine r1 ?_
  refine s1 19 80 1 rfl rfl rfl rfl rfl rfl trivial ?_
  refine s1 20 88 2 rfl rfl rfl rfl rfl rfl trivial ?_
  refine s1 21 96 3 rfl rfl rfl rfl rfl rfl trivial ?_
  refine c1 (refCheck_any k n l hl) [] [] 22 104 4 rfl rfl rfl rfl rfl rfl rfl rfl Try.func8 rfl rfl rfl rfl trivial rfl rfl ?_
  refine s1 18 112 5 rfl rfl rfl rfl rfl rfl trivial ?_
  refine s1 23 120 6 rfl rfl rfl rfl rfl rfl trivial ?_
  refine s1 24 128 7 rfl rfl rfl rfl rfl rfl trivial ?_
  refine s1 9 136 8 rfl rfl rfl rfl rfl rfl trivial ?_
  refine s1 10 144 9 rfl rfl rfl rfl rfl rfl trivial ?_
  refine e1 152 rfl ?_
  refine keep [7, 8, 9, 10] rfl ?_
  refine r1 ?_
  refine s1 25 152 1 rfl rfl rfl rfl rfl rfl trivial ?_
  refine s1 26 160 2 rfl rfl rfl rfl rfl rfl trivial ?_
  refine s1 27 168 3 rfl rfl rfl rfl rfl rfl (by first | trivial | omega) ?_
  refine s1 28 176 4 rfl rfl rfl rfl rfl rfl trivial ?_
  refine ask 28 rfl (fun hg3_28 => ?_) (fun hg3_28 => ?_)
  · skip
    try simp only [cs, ne_eq] at hg3_28
    refine g1 3 true 28 29 5 rfl rfl rfl rfl rfl ?_
    refine s1 29 184 5 rfl rfl rfl rfl rfl rfl trivial ?_
    refine g1 3 true 28 30 6 rfl rfl rfl rfl rfl ?_
    refine s1 30 192 6 rfl rfl rfl rfl rfl rfl trivial ?_
    refine g1 3 true 28 31 7 rfl rfl rfl rfl rfl ?_
    refine s1 31 200 7 rfl rfl rfl rfl rfl rfl (by first | trivial | omega) ?_
    refine s1 32 208 8 rfl rfl rfl rfl rfl rfl trivial ?_
    refine s1 6 216 9 rfl rfl rfl rfl rfl rfl trivial ?_
    refine e1 224 rfl ?_
    refine keep [6] rfl ?_
    refine W_ret ?_
    exact out1 6 (SV.b true) (π := []) (hout := []) Try.results4 rfl (by first | exact absurd trivial hg3_28 | (show SV.b _ = SV.b _; rw [beq_self_eq_true])) rfl rfl trivial rfl
  try simp only [cs, ne_eq] at hg3_28
  refine g0 3 true 28 29 5 rfl rfl rfl rfl rfl rfl ?_
  refine g0 3 true 28 30 6 rfl rfl rfl rfl rfl rfl ?_
  refine g0 3 true 28 31 7 rfl rfl rfl rfl rfl rfl ?_
  refine s1 32 208 8 rfl rfl rfl rfl rfl rfl trivial ?_
  refine s1 6 216 9 rfl rfl rfl rfl rfl rfl trivial ?_
  refine e1 224 rfl ?_
  refine keep [6] rfl ?_
  refine W_ret ?_
  exact out1 6 (SV.b true) (π := []) (hout := []) Try.results4 rfl (by first | exact absurd trivial hg3_28 | (show SV.b _ = SV.b _; rw [beq_self_eq_true])) rfl rfl trivial rfl

end Go.Proofs.Ytdjphneoecebmaa.Nice
