/- The document: what an object tells, and whether acts can be ordered. -/
import Derived.Test.YtdjphneoecebmaaLinFound
namespace Go.Proofs.Ytdjphneoecebmaa.Nice
open Go
set_option linter.unusedVariables false
set_option linter.unusedSimpArgs false
set_option maxRecDepth 100000
set_option maxHeartbeats 4000000

def kindI : Ob → Int
  | .reg _ => 1
  | .cnt _ => 2
  | .hp false _ => 3
  | .hp true _ => 4
def hasOf : Ob → List Int
  | .reg n => [n]
  | .cnt n => [n]
  | .hp _ l => l
def tellP (k : Int) (h : List Int) (a : Act) : Int × List Int :=
  if k = 1 then (if a.p = true then (a.v, [a.v]) else (h.getD 0 0, h))
  else if k = 2 then (h.getD 0 0, [wrp (h.getD 0 0 + a.y)])
  else if a.p = true then (a.v, h ++ [a.v])
  else if h.length = 0 then (-1, h)
  else if k = 3 then (h.getD 0 0, h.drop 1) else (h.getD (h.length - 1) 0, h.take (h.length - 1))
theorem tp_1p {k : Int} {h : List Int} {a : Act} (h1 : k = 1) (h2 : a.p = true) : tellP k h a = (a.v, [a.v]) := by unfold tellP; rw [if_pos h1, if_pos h2]
theorem tp_1g {k : Int} {h : List Int} {a : Act} (h1 : k = 1) (h2 : a.p = false) : tellP k h a = (h.getD 0 0, h) := by unfold tellP; rw [if_pos h1, if_neg (by rw [h2]; decide)]
theorem tp_2 {k : Int} {h : List Int} {a : Act} (h1 : k = 2) : tellP k h a = (h.getD 0 0, [wrp (h.getD 0 0 + a.y)]) := by unfold tellP; rw [if_neg (by omega), if_pos h1]
theorem tp_p {k : Int} {h : List Int} {a : Act} (h0 : ¬ k = 1) (h1 : ¬ k = 2) (h2 : a.p = true) : tellP k h a = (a.v, h ++ [a.v]) := by unfold tellP; rw [if_neg h0, if_neg h1, if_pos h2]
theorem tp_0 {k : Int} {h : List Int} {a : Act} (h0 : ¬ k = 1) (h1 : ¬ k = 2) (h2 : a.p = false) (h3 : h.length = 0) : tellP k h a = (-1, h) := by unfold tellP; rw [if_neg h0, if_neg h1, if_neg (by rw [h2]; decide), if_pos h3]
theorem tp_3 {k : Int} {h : List Int} {a : Act} (h0 : ¬ k = 1) (h1 : ¬ k = 2) (h2 : a.p = false) (h3 : ¬ h.length = 0) (h4 : k = 3) : tellP k h a = (h.getD 0 0, h.drop 1) := by unfold tellP; rw [if_neg h0, if_neg h1, if_neg (by rw [h2]; decide), if_neg h3, if_pos h4]
theorem tp_4 {k : Int} {h : List Int} {a : Act} (h0 : ¬ k = 1) (h1 : ¬ k = 2) (h2 : a.p = false) (h3 : ¬ h.length = 0) (h4 : ¬ k = 3) : tellP k h a = (h.getD (h.length - 1) 0, h.take (h.length - 1)) := by unfold tellP; rw [if_neg h0, if_neg h1, if_neg (by rw [h2]; decide), if_neg h3, if_neg h4]
theorem tell_ob (o : Ob) (a : Act) : tellP (kindI o) (hasOf o) a = ((onext o a).2, hasOf (onext o a).1) := by
  cases o with
  | reg n => cases h : a.p with
    | true => rw [onext_reg_put h]; show tellP 1 [n] a = _; rw [tp_1p rfl h]; rfl
    | false => rw [onext_reg_get h]; show tellP 1 [n] a = _; rw [tp_1g rfl h]; rfl
  | cnt n => show tellP 2 [n] a = _; rw [tp_2 rfl]; rfl
  | hp b l =>
    have k1 : ¬ kindI (.hp b l) = 1 := by cases b <;> (intro h; cases h)
    have k2 : ¬ kindI (.hp b l) = 2 := by cases b <;> (intro h; cases h)
    cases h : a.p with
    | true => rw [onext_put h]; show tellP (kindI (.hp b l)) l a = _; rw [tp_p k1 k2 h]; rfl
    | false =>
      by_cases h2 : l.length = 0
      · rw [onext_none h h2]; show tellP (kindI (.hp b l)) l a = _; rw [tp_0 k1 k2 h h2]; rfl
      · cases b with
        | true => rw [onext_last h h2 rfl]; show tellP (kindI (.hp true l)) l a = _; rw [tp_4 k1 k2 h h2 (by intro h; cases h)]; rfl
        | false => rw [onext_first h h2 rfl]; show tellP (kindI (.hp false l)) l a = _; rw [tp_3 k1 k2 h h2 rfl]; rfl
theorem has_one {o : Ob} (h : kindI o = 1 ∨ kindI o = 2) : (hasOf o).length = 1 := by
  cases o with
  | reg n => rfl
  | cnt n => rfl
  | hp b l => cases b <;> (rcases h with h | h <;> cases h)
theorem has_size (o : Ob) : (hasOf o).length ≤ osize o + 1 := by
  cases o with
  | reg n => exact Nat.le_refl _
  | cnt n => exact Nat.le_refl _
  | hp b l => exact Nat.le_succ _
def mustTo (l : List Act) (n : Nat) : Bool := (List.range n).any fun k => !decide ((l.getD k default).e = -1)
def frstTo (l : List Act) (a : Act) (n : Nat) : Bool := (List.range n).all fun k => decide ((l.getD k default).e = -1) || !decide ((l.getD k default).e < a.b)
def obr (G : Ob → List Act → Bool) (o : Ob) (l : List Act) (i : Nat) : Bool := frstTo l (l.getD i default) l.length && (fits o (l.getD i default) && G (onext o (l.getD i default)).1 (l.eraseIdx i))
def ordB : Nat → Ob → List Act → Bool
  | 0, _, _ => true
  | f + 1, o, l => !mustTo l l.length || (List.range l.length).any (obr (ordB f) o l)
theorem mustTo_succ (l : List Act) (n : Nat) : mustTo l (n + 1) = (mustTo l n || !decide ((l.getD n default).e = -1)) := by
  unfold mustTo; rw [List.range_succ, List.any_append]; simp
theorem frstTo_succ (l : List Act) (a : Act) (n : Nat) : frstTo l a (n + 1) = (frstTo l a n && (decide ((l.getD n default).e = -1) || !decide ((l.getD n default).e < a.b))) := by
  unfold frstTo; rw [List.range_succ, List.all_append]; simp
theorem ord_no {f : Nat} {o : Ob} {l : List Act} (h : mustTo l l.length = false) : ordB f o l = true := by
  cases f with
  | zero => rfl
  | succ f => show (!mustTo l l.length || _) = true; rw [h]; rfl
theorem ord_yes {f f' : Nat} {o : Ob} {l : List Act} {i : Nat} (hf : f = f' + 1) (hi : i < l.length) (h : obr (ordB f') o l i = true) : ordB f o l = true := by
  subst hf
  show (_ || _) = true
  rw [Bool.or_eq_true]; right; rw [List.any_eq_true]; exact ⟨i, List.mem_range.2 hi, h⟩
theorem ord_none {f f' : Nat} {o : Ob} {l : List Act} (hf : f = f' + 1) (h0 : mustTo l l.length = true) (h : ∀ i, i < l.length → obr (ordB f') o l i = false) : ordB f o l = false := by
  subst hf
  show (!mustTo l l.length || _) = false
  rw [h0, Bool.not_true, Bool.false_or, List.any_eq_false]
  intro i hi; rw [h i (List.mem_range.1 hi)]; decide
theorem obr_frst {G : Ob → List Act → Bool} {o : Ob} {l : List Act} {i : Nat} (h : frstTo l (l.getD i default) l.length = false) : obr G o l i = false := by unfold obr; rw [h]; rfl
theorem obr_fit {G : Ob → List Act → Bool} {o : Ob} {l : List Act} {i : Nat} (h : fits o (l.getD i default) = false) : obr G o l i = false := by unfold obr; rw [h]; simp
theorem obr_g {G : Ob → List Act → Bool} {o : Ob} {l : List Act} {i : Nat} (h : G (onext o (l.getD i default)).1 (l.eraseIdx i) = false) : obr G o l i = false := by unfold obr; rw [h]; simp
theorem obr_yes {G : Ob → List Act → Bool} {o : Ob} {l : List Act} {i : Nat} (h1 : frstTo l (l.getD i default) l.length = true) (h2 : fits o (l.getD i default) = true) (h3 : G (onext o (l.getD i default)).1 (l.eraseIdx i) = true) : obr G o l i = true := by unfold obr; rw [h1, h2, h3]; rfl
def actBlk (a : Act) : Blk := .cells 31 5 [.d (actC a 0), .d (actC a 1), .d (actC a 2), .d (actC a 3), .d (actC a 4)]
theorem kindI_in (o : Ob) : 1 ≤ kindI o ∧ kindI o ≤ 4 := by
  cases o with
  | reg n => show (1 : Int) ≤ 1 ∧ (1 : Int) ≤ 4; omega
  | cnt n => show (1 : Int) ≤ 2 ∧ (2 : Int) ≤ 4; omega
  | hp b l => cases b
              · show (1 : Int) ≤ 3 ∧ (3 : Int) ≤ 4; omega
              · show (1 : Int) ≤ 4 ∧ (4 : Int) ≤ 4; omega
theorem kindI_next (o : Ob) (a : Act) : kindI (onext o a).1 = kindI o := by
  cases o with
  | reg n => cases h : a.p with
    | true => rw [onext_reg_put h]; rfl
    | false => rw [onext_reg_get h]
  | cnt n => rfl
  | hp b l =>
    cases h : a.p with
    | true => rw [onext_put h]; cases b <;> rfl
    | false =>
      by_cases h2 : l.length = 0
      · rw [onext_none h h2]
      · cases b with
        | true => rw [onext_last h h2 rfl]; rfl
        | false => rw [onext_first h h2 rfl]; rfl
theorem erase_F (l : List Act) (i j c : Nat) (hi : i < l.length) (hj : j < l.length - 1) : (if j < i then actF l j c else actF l (j - i + (i + 1)) c) = actF (l.eraseIdx i) j c := by
  unfold actF
  rw [List.getD_eq_getElem?_getD (l := l.eraseIdx i), List.getElem?_eraseIdx]
  split
  · rw [List.getD_eq_getElem?_getD]
  · rw [show j - i + (i + 1) = j + 1 by omega, List.getD_eq_getElem?_getD]
theorem erase_len {l : List Act} {i : Nat} (h : i < l.length) : (l.eraseIdx i).length = l.length - 1 := by rw [List.length_eraseIdx, if_pos h]

theorem tells_any (k : Int) (h : List Int) (a : Act) (hh : h.length ≤ 1048575) (hk : k = 1 ∨ k = 2 → 1 ≤ h.length) : Spec Try.prog G0 18 [SV.i k, intsV h, actS a] [] (fun r ho => r = SV.tup [SV.i (tellP k h a).1, intsV (tellP k h a).2] ∧ ho = []) := by
  refine start 66 0 Try.func18 rfl rfl rfl rfl ?_
  refine r1 ?_
  refine s1 5 0 1 rfl rfl rfl rfl rfl rfl trivial ?_
  refine s1 6 8 2 rfl rfl rfl rfl rfl rfl trivial ?_
  refine s1 7 16 3 rfl rfl rfl rfl rfl rfl trivial ?_
  refine e1 24 rfl ?_
  refine keep [0, 1, 5] rfl ?_
  refine W_seq ?_
  refine r1 ?_
  refine s1 8 24 1 rfl rfl rfl rfl rfl rfl trivial ?_
  refine e1 32 rfl ?_
  refine keep [0, 1, 5, 8] rfl ?_
  refine W_block ?_
  refine r1 ?_
  refine s1 10 32 1 rfl rfl rfl rfl rfl rfl (by first | trivial | omega) ?_
  refine s1 9 40 2 rfl rfl rfl rfl rfl rfl trivial ?_
  refine e1 48 rfl ?_
  refine keep [0, 1, 5, 8, 9] rfl ?_
  refine q1 rfl (fun hc2 => ?_) (fun hc2 => ?_)
  · skip
    try simp only [cs, ne_eq] at hc2
    refine W_seq ?_
    refine r1 ?_
    refine s1 11 48 1 rfl rfl rfl rfl rfl rfl trivial ?_
    refine s1 12 56 2 rfl rfl rfl rfl rfl rfl (by first | trivial | omega) ?_
    refine e1 64 rfl ?_
    refine keep [1, 5, 12] rfl ?_
    refine q1 rfl (fun hc3 => ?_) (fun hc3 => ?_)
    · skip
      try simp only [cs, ne_eq] at hc3
      refine rd1 rfl ?_
      refine d1 13 64 1 rfl rfl rfl rfl rfl rfl trivial ?_
      refine d1 14 72 2 rfl rfl rfl rfl rfl rfl (by first | trivial | omega) ?_
      refine d1 15 80 3 rfl rfl rfl rfl rfl rfl trivial ?_
      refine d1 16 88 4 rfl rfl rfl rfl rfl rfl (by first | trivial | omega) ?_
      refine dLit 1 (intsF [a.v]) 17 96 5 rfl rfl rfl rfl rfl rfl rfl rfl rfl (by intro i c hi hc; obtain rfl : i = 0 := (by omega); obtain rfl : c = 0 := (by omega); rfl) ?_
      refine d1 6 104 6 rfl rfl rfl rfl rfl rfl trivial ?_
      refine d1 7 112 7 rfl rfl rfl rfl rfl rfl trivial ?_
      refine de1 120 rfl (by kernel_rfl) ?_
      refine keep [6, 7] rfl ?_
      refine W_ret ?_
      refine tr ?_
      refine br ?_
      refine tr ?_
      exact out2 6 7 (SV.i (tellP k h a).1) (intsV (tellP k h a).2) (π := []) (hout := []) Try.results18 rfl rfl (by rw [tp_1p (by omega) hc3]; rfl) (by rw [tp_1p (by omega) hc3]; rfl) rfl rfl trivial ⟨rfl, rfl⟩
    try simp only [cs, ne_eq] at hc3
    refine W_skip ?_
    refine tn ?_
    refine r1 ?_
    refine s1 18 64 1 rfl rfl rfl rfl rfl rfl trivial ?_
    refine s1 19 72 2 rfl rfl rfl rfl rfl rfl (by have := hk (.inl (by omega)); omega) ?_
    refine s1 20 80 3 rfl rfl rfl rfl rfl rfl (by first | trivial | omega) ?_
    refine s1 21 88 4 rfl rfl rfl rfl rfl rfl trivial ?_
    refine s1 6 96 5 rfl rfl rfl rfl rfl rfl trivial ?_
    refine s1 7 104 6 rfl rfl rfl rfl rfl rfl trivial ?_
    refine e1 112 rfl ?_
    refine keep [6, 7] rfl ?_
    refine W_ret ?_
    refine br ?_
    refine tr ?_
    exact out2 6 7 (SV.i (tellP k h a).1) (intsV (tellP k h a).2) (π := []) (hout := []) Try.results18 rfl rfl (by rw [tp_1g (by omega) hc3]; rfl) (by rw [tp_1g (by omega) hc3]; rfl) rfl rfl trivial ⟨rfl, rfl⟩
  try simp only [cs, ne_eq] at hc2
  refine r1 ?_
  refine s1 23 48 1 rfl rfl rfl rfl rfl rfl (by first | trivial | omega) ?_
  refine s1 22 56 2 rfl rfl rfl rfl rfl rfl trivial ?_
  refine e1 64 rfl ?_
  refine keep [0, 1, 5, 22] rfl ?_
  refine q1 rfl (fun hc6 => ?_) (fun hc6 => ?_)
  · skip
    try simp only [cs, ne_eq] at hc6
    refine rd1 rfl ?_
    refine d1 24 64 1 rfl rfl rfl rfl rfl rfl trivial ?_
    refine d1 25 72 2 rfl rfl rfl rfl rfl rfl (by have := hk (.inr (by omega)); omega) ?_
    refine d1 26 80 3 rfl rfl rfl rfl rfl rfl (by first | trivial | omega) ?_
    refine d1 27 88 4 rfl rfl rfl rfl rfl rfl trivial ?_
    refine d1 28 96 5 rfl rfl rfl rfl rfl rfl (by have := hk (.inr (by omega)); omega) ?_
    refine d1 29 104 6 rfl rfl rfl rfl rfl rfl (by first | trivial | omega) ?_
    refine d1 30 112 7 rfl rfl rfl rfl rfl rfl trivial ?_
    refine d1 31 120 8 rfl rfl rfl rfl rfl rfl (by first | trivial | omega) ?_
    refine d1 32 128 9 rfl rfl rfl rfl rfl rfl (by first | trivial | omega) ?_
    refine dLit 1 (intsF [wrp (h.getD 0 0 + a.y)]) 33 136 10 rfl rfl rfl rfl rfl rfl rfl rfl rfl (by intro i c hi hc; obtain rfl : i = 0 := (by omega); obtain rfl : c = 0 := (by omega); rfl) ?_
    refine d1 6 144 11 rfl rfl rfl rfl rfl rfl trivial ?_
    refine d1 7 152 12 rfl rfl rfl rfl rfl rfl trivial ?_
    refine de1 160 rfl (by kernel_rfl) ?_
    refine keep [6, 7] rfl ?_
    refine W_ret ?_
    refine br ?_
    refine tr ?_
    exact out2 6 7 (SV.i (tellP k h a).1) (intsV (tellP k h a).2) (π := []) (hout := []) Try.results18 rfl rfl (by rw [tp_2 (by omega)]; rfl) (by rw [tp_2 (by omega)]; rfl) rfl rfl trivial ⟨rfl, rfl⟩
  try simp only [cs, ne_eq] at hc6
  refine W_skip ?_
  refine bn ?_
  refine tn ?_
  refine W_seq ?_
  refine r1 ?_
  refine s1 34 64 1 rfl rfl rfl rfl rfl rfl trivial ?_
  refine s1 35 72 2 rfl rfl rfl rfl rfl rfl (by first | trivial | omega) ?_
  refine e1 80 rfl ?_
  refine keep [0, 1, 5, 35] rfl ?_
  refine q1 rfl (fun hc8 => ?_) (fun hc8 => ?_)
  · skip
    try simp only [cs, ne_eq] at hc8
    refine rd1 rfl ?_
    refine d1 36 80 1 rfl rfl rfl rfl rfl rfl trivial ?_
    refine d1 37 88 2 rfl rfl rfl rfl rfl rfl (by first | trivial | omega) ?_
    refine d1 38 96 3 rfl rfl rfl rfl rfl rfl trivial ?_
    refine d1 39 104 4 rfl rfl rfl rfl rfl rfl ⟨trivial, (by show h.length * 8 ≤ 140737488355328; omega), (by simp only [maxLen]; omega)⟩ ?_
    refine d1 40 112 5 rfl rfl rfl rfl rfl rfl trivial ?_
    refine d1 41 120 6 rfl rfl rfl rfl rfl rfl (by first | trivial | omega) ?_
    refine d1 42 128 7 rfl rfl rfl rfl rfl rfl trivial ?_
    refine d1 43 136 8 rfl rfl rfl rfl rfl rfl ⟨Nat.le_refl _, trivial, (by show (h.length + 1) * 8 ≤ 140737488355328; omega), (by simp only [maxLen]; omega)⟩ ?_
    refine d1 6 144 9 rfl rfl rfl rfl rfl rfl trivial ?_
    refine d1 7 152 10 rfl rfl rfl rfl rfl rfl trivial ?_
    refine de1 160 rfl (by kernel_rfl) ?_
    refine keep [6, 7] rfl ?_
    refine rowsc 136 (h ++ [a.v]).length (intsF (h ++ [a.v])) rfl (by simp) (fun i c hi hc => ints_cat h a.v i c hi hc) ?_
    refine cval 7 (.sl 136 0 (h ++ [a.v]).length) rfl (by rw [List.length_append]; rfl) ?_
    refine freeze 7 136 (h ++ [a.v]).length rfl rfl (Nat.le_refl _) ?_
    refine W_ret ?_
    refine tr ?_
    exact out2 6 7 (SV.i (tellP k h a).1) (intsV (tellP k h a).2) (π := []) (hout := []) Try.results18 rfl rfl (by rw [tp_p (by omega) (by omega) hc8]; rfl) (by rw [tp_p (by omega) (by omega) hc8]; rfl) rfl rfl trivial ⟨rfl, rfl⟩
  try simp only [cs, ne_eq] at hc8
  refine W_skip ?_
  refine tn ?_
  refine W_seq ?_
  refine r1 ?_
  refine s1 44 80 1 rfl rfl rfl rfl rfl rfl trivial ?_
  refine s1 45 88 2 rfl rfl rfl rfl rfl rfl (by first | trivial | omega) ?_
  refine s1 46 96 3 rfl rfl rfl rfl rfl rfl (by first | trivial | omega) ?_
  refine e1 104 rfl ?_
  refine keep [0, 1, 46] rfl ?_
  refine q1 rfl (fun hc10 => ?_) (fun hc10 => ?_)
  · skip
    try simp only [cs, ne_eq] at hc10
    refine r1 ?_
    refine s1 47 104 1 rfl rfl rfl rfl rfl rfl trivial ?_
    refine s1 6 112 2 rfl rfl rfl rfl rfl rfl trivial ?_
    refine s1 7 120 3 rfl rfl rfl rfl rfl rfl trivial ?_
    refine e1 128 rfl ?_
    refine keep [6, 7] rfl ?_
    refine W_ret ?_
    refine tr ?_
    exact out2 6 7 (SV.i (tellP k h a).1) (intsV (tellP k h a).2) (π := []) (hout := []) Try.results18 rfl rfl (by rw [tp_0 (by omega) (by omega) hc8 (by omega)]; rfl) (by rw [tp_0 (by omega) (by omega) hc8 (by omega)]; rfl) rfl rfl trivial ⟨rfl, rfl⟩
  try simp only [cs, ne_eq] at hc10
  refine W_skip ?_
  refine tn ?_
  refine W_seq ?_
  refine r1 ?_
  refine s1 48 104 1 rfl rfl rfl rfl rfl rfl trivial ?_
  refine s1 49 112 2 rfl rfl rfl rfl rfl rfl (by first | trivial | omega) ?_
  refine e1 120 rfl ?_
  refine keep [1, 49] rfl ?_
  refine q1 rfl (fun hc12 => ?_) (fun hc12 => ?_)
  · skip
    try simp only [cs, ne_eq] at hc12
    refine rd1 rfl ?_
    refine d1 50 120 1 rfl rfl rfl rfl rfl rfl trivial ?_
    refine d1 51 128 2 rfl rfl rfl rfl rfl rfl (by omega) ?_
    refine d1 52 136 3 rfl rfl rfl rfl rfl rfl (by first | trivial | omega) ?_
    refine d1 53 144 4 rfl rfl rfl rfl rfl rfl trivial ?_
    refine d1 54 152 5 rfl rfl rfl rfl rfl rfl (by omega) ?_
    refine d1 6 160 6 rfl rfl rfl rfl rfl rfl trivial ?_
    refine d1 7 168 7 rfl rfl rfl rfl rfl rfl trivial ?_
    refine de1 176 rfl (by kernel_rfl) ?_
    refine keep [6, 7] rfl ?_
    refine vecc 7 (h.drop 1).length (intsF (h.drop 1)) rfl (by rw [List.length_drop]; omega) (fun i c hi hc => by first | exact drop_F h i c hc | (rw [Nat.add_comm]; exact drop_F h i c hc)) ?_
    refine W_ret ?_
    refine tr ?_
    exact out2 6 7 (SV.i (tellP k h a).1) (intsV (tellP k h a).2) (π := []) (hout := []) Try.results18 rfl rfl (by rw [tp_3 (by omega) (by omega) hc8 (by omega) (by omega)]; rfl) (by rw [tp_3 (by omega) (by omega) hc8 (by omega) (by omega)]; rfl) rfl rfl trivial ⟨rfl, rfl⟩
  try simp only [cs, ne_eq] at hc12
  refine W_skip ?_
  refine tn ?_
  refine rd1 rfl ?_
  refine d1 55 120 1 rfl rfl rfl rfl rfl rfl trivial ?_
  refine d1 56 128 2 rfl rfl rfl rfl rfl rfl trivial ?_
  refine d1 57 136 3 rfl rfl rfl rfl rfl rfl (by first | trivial | omega) ?_
  refine dA 58 144 4 rfl rfl rfl rfl rfl rfl rfl rfl rfl (by unfold inRange; omega) ?_
  refine d1 59 152 5 rfl rfl rfl rfl rfl rfl (by omega) ?_
  refine d1 60 160 6 rfl rfl rfl rfl rfl rfl (by first | trivial | omega) ?_
  refine d1 61 168 7 rfl rfl rfl rfl rfl rfl trivial ?_
  refine d1 62 176 8 rfl rfl rfl rfl rfl rfl trivial ?_
  refine d1 63 184 9 rfl rfl rfl rfl rfl rfl (by first | trivial | omega) ?_
  refine dA 64 192 10 rfl rfl rfl rfl rfl rfl rfl rfl rfl (by unfold inRange; omega) ?_
  refine d1 65 200 11 rfl rfl rfl rfl rfl rfl (by omega) ?_
  refine d1 6 208 12 rfl rfl rfl rfl rfl rfl trivial ?_
  refine d1 7 216 13 rfl rfl rfl rfl rfl rfl trivial ?_
  refine de1 224 rfl (by kernel_rfl) ?_
  refine keep [6, 7] rfl ?_
  refine vecc 7 (h.take (h.length - 1)).length (intsF (h.take (h.length - 1))) rfl (by rw [List.length_take]; omega) (fun i c hi hc => by first | exact take_F h _ i c (by rw [List.length_take]; omega) hc | (rw [Nat.zero_add]; exact take_F h _ i c (by rw [List.length_take]; omega) hc)) ?_
  refine W_ret ?_
  exact out2 6 7 (SV.i (tellP k h a).1) (intsV (tellP k h a).2) (π := []) (hout := []) Try.results18 rfl rfl (by rw [tp_4 (by omega) (by omega) hc8 (by omega) (by omega)]; rw [show ((h.length : Int) - 1).toNat = h.length - 1 from by omega]; rfl) (by rw [tp_4 (by omega) (by omega) hc8 (by omega) (by omega)]; rfl) rfl rfl trivial ⟨rfl, rfl⟩

theorem ordered_step (f : Nat) (hIH : ∀ f', f = f' + 1 → ∀ (o : Ob) (l : List Act), l.length = f' → osize o + l.length ≤ 9 → Spec Try.prog G0 14 [SV.i (kindI o), intsV (hasOf o), actsV l] [] (fun r ho => r = SV.b (ordB f' o l) ∧ ho = [])) (o : Ob) (l : List Act) (hl : l.length = f) (hs : osize o + l.length ≤ 9) : Spec Try.prog G0 14 [SV.i (kindI o), intsV (hasOf o), actsV l] [] (fun r ho => r = SV.b (ordB f o l) ∧ ho = []) := by
  refine start 89 0 Try.func14 rfl rfl rfl rfl ?_
  refine r1 ?_
  refine s1 6 0 1 rfl rfl rfl rfl rfl rfl trivial ?_
  refine e1 8 rfl ?_
  refine keep [0, 1, 2] rfl ?_
  refine r1 ?_
  refine s1 7 8 1 rfl rfl rfl rfl rfl rfl trivial ?_
  refine e1 16 rfl ?_
  refine keep [0, 1, 2, 7] rfl ?_
  refine W_seq ?_
  refine r1 ?_
  refine s1 18 16 1 rfl rfl rfl rfl rfl rfl trivial ?_
  refine s1 19 24 2 rfl rfl rfl rfl rfl rfl (by first | trivial | omega) ?_
  refine s1 20 32 3 rfl rfl rfl rfl rfl rfl trivial ?_
  refine e1 40 rfl ?_
  refine keep [0, 1, 2, 7, 18, 19, 20] rfl ?_
  refine W_block ?_
  refine loop (α := Nat) 0 (fun n => [(0, SV.i (kindI o)), (1, intsV (hasOf o)), (2, actsV l), (7, SV.b (mustTo l (n))), (18, actsV l), (19, SV.i l.length), (20, SV.i (n))]) (fun n => []) (fun n => (n) ≤ l.length) (fun n => l.length - (n)) (((0) : Nat)) [] (fun _ => rfl) (show (0) ≤ l.length from (Nat.zero_le _)) rfl ⟨rfl, rfl, rfl, rfl, rfl, rfl, rfl, trivial⟩ trivial (fun n hx => ?_)
  show W _ _ _ ⟨tOf [(0, SV.i (kindI o)), (1, intsV (hasOf o)), (2, actsV l), (7, SV.b (mustTo l n)), (18, actsV l), (19, SV.i l.length), (20, SV.i n)], hOf [], 0⟩
  have hx : n ≤ l.length := hx
  refine r1 ?_
  refine s1 21 0 1 rfl rfl rfl rfl rfl rfl (by first | trivial | omega) ?_
  refine e1 8 rfl ?_
  refine keep [0, 1, 2, 7, 18, 19, 20, 21] rfl ?_
  refine W_seq ?_
  refine q1 rfl (fun hc3 => ?_) (fun hc3 => ?_)
  · skip
    try simp only [cs, ne_eq] at hc3
    refine W_skip ?_
    refine tn ?_
    refine W_seq ?_
    refine W_block ?_
    refine r1 ?_
    refine s1 22 8 1 rfl rfl rfl rfl rfl rfl (by first | trivial | omega) ?_
    refine s1 23 16 2 rfl rfl rfl rfl rfl rfl (by first | trivial | omega) ?_
    refine s1 9 24 3 rfl rfl rfl rfl rfl rfl trivial ?_
    refine s0 32 4 rfl rfl rfl rfl rfl (by first | trivial | omega) ?_
    refine e1 40 rfl ?_
    refine keep [0, 1, 2, 7, 9, 18, 19, 20] rfl ?_
    refine r0 ?_
    refine s1 24 40 1 rfl rfl rfl rfl rfl rfl trivial ?_
    refine s1 25 48 2 rfl rfl rfl rfl rfl rfl trivial ?_
    refine ask 25 rfl (fun hg5_25 => ?_) (fun hg5_25 => ?_)
    · skip
      try simp only [cs, ne_eq] at hg5_25
      refine g0 1 false 25 26 3 rfl rfl rfl rfl rfl rfl ?_
      refine g0 1 false 25 27 4 rfl rfl rfl rfl rfl rfl ?_
      refine g0 1 false 25 28 5 rfl rfl rfl rfl rfl rfl ?_
      refine s1 29 80 6 rfl rfl rfl rfl rfl rfl trivial ?_
      refine s1 7 88 7 rfl rfl rfl rfl rfl rfl trivial ?_
      refine e1 96 rfl ?_
      refine bn ?_
      refine tn ?_
      refine r0 ?_
      refine sA 30 96 1 rfl rfl rfl rfl rfl rfl rfl rfl rfl (by unfold inRange; omega) ?_
      refine s1 20 104 2 rfl rfl rfl rfl rfl rfl trivial ?_
      refine e1 112 rfl ?_
      refine tn ?_
      exact again ((n + 1 : Nat)) [] (show (n + 1) ≤ l.length from (by omega)) (show l.length - (n + 1) < l.length - n from (by omega)) rfl ⟨rfl, rfl, rfl, (by show SV.b _ = SV.b _; rw [mustTo_succ]; rw [hg5_25]; rfl), rfl, rfl, rfl, trivial⟩ trivial
    try simp only [cs, ne_eq] at hg5_25
    refine g1 1 false 25 26 3 rfl rfl rfl rfl rfl ?_
    refine s1 26 56 3 rfl rfl rfl rfl rfl rfl trivial ?_
    refine g1 1 false 25 27 4 rfl rfl rfl rfl rfl ?_
    refine s1 27 64 4 rfl rfl rfl rfl rfl rfl (by first | trivial | omega) ?_
    refine g1 1 false 25 28 5 rfl rfl rfl rfl rfl ?_
    refine s1 28 72 5 rfl rfl rfl rfl rfl rfl (by first | trivial | omega) ?_
    refine s1 29 80 6 rfl rfl rfl rfl rfl rfl trivial ?_
    refine s1 7 88 7 rfl rfl rfl rfl rfl rfl trivial ?_
    refine e1 96 rfl ?_
    refine bn ?_
    refine tn ?_
    refine r0 ?_
    refine sA 30 96 1 rfl rfl rfl rfl rfl rfl rfl rfl rfl (by unfold inRange; omega) ?_
    refine s1 20 104 2 rfl rfl rfl rfl rfl rfl trivial ?_
    refine e1 112 rfl ?_
    refine tn ?_
    exact again ((n + 1 : Nat)) [] (show (n + 1) ≤ l.length from (by omega)) (show l.length - (n + 1) < l.length - n from (by omega)) rfl ⟨rfl, rfl, rfl, (by show SV.b _ = SV.b _; rw [mustTo_succ]; rw [hg5_25]; rfl), rfl, rfl, rfl, trivial⟩ trivial
  try simp only [cs, ne_eq] at hc3
  refine W_exit ?_
  refine tx ?_
  refine tx ?_
  refine bx ?_
  refine tn ?_
  refine W_seq ?_
  obtain rfl : n = l.length := (by omega)
  refine r1 ?_
  refine s1 31 8 1 rfl rfl rfl rfl rfl rfl trivial ?_
  refine s1 32 16 2 rfl rfl rfl rfl rfl rfl trivial ?_
  refine e1 24 rfl ?_
  refine keep [0, 1, 2, 32] rfl ?_
  refine q1 rfl (fun hc7 => ?_) (fun hc7 => ?_)
  · skip
    try simp only [cs, ne_eq] at hc7
    refine r1 ?_
    refine s1 6 24 1 rfl rfl rfl rfl rfl rfl trivial ?_
    refine e1 32 rfl ?_
    refine keep [6] rfl ?_
    refine W_ret ?_
    refine tr ?_
    exact out1 6 (SV.b (ordB f o l)) (π := []) (hout := []) Try.results14 rfl (by rw [ord_no (by simpa using hc7)]; rfl) rfl rfl trivial ⟨rfl, rfl⟩
  try simp only [cs, ne_eq] at hc7
  refine W_skip ?_
  refine tn ?_
  refine W_seq ?_
  have hmust : mustTo l l.length = true := (by simpa using hc7)
  refine r1 ?_
  refine s1 33 24 1 rfl rfl rfl rfl rfl rfl trivial ?_
  refine s1 34 32 2 rfl rfl rfl rfl rfl rfl (by first | trivial | omega) ?_
  refine s1 35 40 3 rfl rfl rfl rfl rfl rfl trivial ?_
  refine e1 48 rfl ?_
  refine keep [0, 1, 2, 33, 34, 35] rfl ?_
  refine W_block ?_
  refine loop (α := Nat) 0 (fun n => [(0, SV.i (kindI o)), (1, intsV (hasOf o)), (2, actsV l), (33, actsV l), (34, SV.i l.length), (35, SV.i (n))]) (fun n => []) (fun n => (n) ≤ l.length ∧ ∀ i, i < (n) → ∀ f', f = f' + 1 → obr (ordB f') o l i = false) (fun n => l.length - (n)) (((0) : Nat)) [] (fun _ => rfl) (show (0) ≤ l.length ∧ ∀ i, i < (0) → ∀ f', f = f' + 1 → obr (ordB f') o l i = false from ⟨Nat.zero_le _, fun i hi => absurd hi (Nat.not_lt_zero _)⟩) rfl ⟨rfl, rfl, rfl, rfl, rfl, rfl, trivial⟩ trivial (fun n hx => ?_)
  show W _ _ _ ⟨tOf [(0, SV.i (kindI o)), (1, intsV (hasOf o)), (2, actsV l), (33, actsV l), (34, SV.i l.length), (35, SV.i n)], hOf [], 0⟩
  have hx : n ≤ l.length ∧ ∀ i, i < n → ∀ f', f = f' + 1 → obr (ordB f') o l i = false := hx
  obtain ⟨hnn, hno⟩ := hx
  refine r1 ?_
  refine s1 36 0 1 rfl rfl rfl rfl rfl rfl (by first | trivial | omega) ?_
  refine e1 8 rfl ?_
  refine keep [0, 1, 2, 33, 34, 35, 36] rfl ?_
  refine W_seq ?_
  refine q1 rfl (fun hc10 => ?_) (fun hc10 => ?_)
  · skip
    try simp only [cs, ne_eq] at hc10
    refine W_skip ?_
    refine tn ?_
    refine W_seq ?_
    refine W_block ?_
    refine r1 ?_
    refine s1 37 8 1 rfl rfl rfl rfl rfl rfl trivial ?_
    refine s1 38 16 2 rfl rfl rfl rfl rfl rfl (by first | trivial | omega) ?_
    refine s1 39 24 3 rfl rfl rfl rfl rfl rfl (by first | trivial | omega) ?_
    refine s1 11 32 4 rfl rfl rfl rfl rfl rfl trivial ?_
    refine s1 10 40 5 rfl rfl rfl rfl rfl rfl trivial ?_
    refine s0 48 6 rfl rfl rfl rfl rfl (by first | trivial | omega) ?_
    refine e1 56 rfl ?_
    refine keep [0, 1, 2, 10, 11, 33, 34, 35] rfl ?_
    refine r1 ?_
    refine s1 12 56 1 rfl rfl rfl rfl rfl rfl trivial ?_
    refine e1 64 rfl ?_
    refine keep [0, 1, 2, 10, 11, 12, 33, 34, 35] rfl ?_
    refine W_seq ?_
    refine r1 ?_
    refine s1 40 64 1 rfl rfl rfl rfl rfl rfl trivial ?_
    refine s1 41 72 2 rfl rfl rfl rfl rfl rfl (by first | trivial | omega) ?_
    refine s1 42 80 3 rfl rfl rfl rfl rfl rfl trivial ?_
    refine e1 88 rfl ?_
    refine keep [0, 1, 2, 10, 11, 12, 33, 34, 35, 40, 41, 42] rfl ?_
    refine W_block ?_
    refine loop (α := Nat) 1 (fun j => [(0, SV.i (kindI o)), (1, intsV (hasOf o)), (2, actsV l), (10, SV.i n), (11, .ptr 0 0 0), (12, SV.b (frstTo l (l.getD n default) (j))), (33, actsV l), (34, SV.i l.length), (35, SV.i n), (40, actsV l), (41, SV.i l.length), (42, SV.i (j))]) (fun j => [some (actBlk (l.getD n default))]) (fun j => (j) ≤ l.length) (fun j => l.length - (j)) (((0) : Nat)) [32] (fun _ => rfl) (show (0) ≤ l.length from (Nat.zero_le _)) rfl ⟨rfl, rfl, rfl, rfl, rfl, rfl, rfl, rfl, rfl, rfl, rfl, rfl, trivial⟩ ⟨rfl, trivial⟩ (fun j hx => ?_)
    show W _ _ _ ⟨tOf [(0, SV.i (kindI o)), (1, intsV (hasOf o)), (2, actsV l), (10, SV.i n), (11, .ptr 0 0 0), (12, SV.b (frstTo l (l.getD n default) j)), (33, actsV l), (34, SV.i l.length), (35, SV.i n), (40, actsV l), (41, SV.i l.length), (42, SV.i j)], hOf [some (actBlk (l.getD n default))], 1⟩
    have hx : j ≤ l.length := hx
    refine r1 ?_
    refine s1 43 1 1 rfl rfl rfl rfl rfl rfl (by first | trivial | omega) ?_
    refine e1 9 rfl ?_
    refine keep [0, 1, 2, 10, 11, 12, 33, 34, 35, 40, 41, 42, 43] rfl ?_
    refine W_seq ?_
    refine q1 rfl (fun hc14 => ?_) (fun hc14 => ?_)
    · skip
      try simp only [cs, ne_eq] at hc14
      refine W_skip ?_
      refine tn ?_
      refine W_seq ?_
      refine W_block ?_
      refine r1 ?_
      refine s1 44 9 1 rfl rfl rfl rfl rfl rfl (by first | trivial | omega) ?_
      refine s1 45 17 2 rfl rfl rfl rfl rfl rfl (by first | trivial | omega) ?_
      refine s1 14 25 3 rfl rfl rfl rfl rfl rfl trivial ?_
      refine s0 33 4 rfl rfl rfl rfl rfl (by first | trivial | omega) ?_
      refine e1 41 rfl ?_
      refine keep [0, 1, 2, 10, 11, 12, 14, 33, 34, 35, 40, 41, 42] rfl ?_
      refine r1 ?_
      refine s1 46 41 1 rfl rfl rfl rfl rfl rfl trivial ?_
      refine s1 47 49 2 rfl rfl rfl rfl rfl rfl (by first | trivial | omega) ?_
      refine s1 48 57 3 rfl rfl rfl rfl rfl rfl (by first | trivial | omega) ?_
      refine s1 49 65 4 rfl rfl rfl rfl rfl rfl trivial ?_
      refine ask 49 rfl (fun hg16_49 => ?_) (fun hg16_49 => ?_)
      · skip
        try simp only [cs, ne_eq] at hg16_49
        refine g1 3 true 49 50 5 rfl rfl rfl rfl rfl ?_
        refine s1 50 73 5 rfl rfl rfl rfl rfl rfl trivial ?_
        refine g1 3 true 49 51 6 rfl rfl rfl rfl rfl ?_
        refine s1 51 81 6 rfl rfl rfl rfl rfl rfl (by first | trivial | omega) ?_
        refine g1 3 true 49 52 7 rfl rfl rfl rfl rfl ?_
        refine s1 52 89 7 rfl rfl rfl rfl rfl rfl trivial ?_
        refine g1 3 true 49 53 8 rfl rfl rfl rfl rfl ?_
        refine s1 53 97 8 rfl rfl rfl rfl rfl rfl (by first | trivial | omega) ?_
        refine g1 3 true 49 54 9 rfl rfl rfl rfl rfl ?_
        refine s1 54 105 9 rfl rfl rfl rfl rfl rfl (by first | trivial | omega) ?_
        refine s1 55 113 10 rfl rfl rfl rfl rfl rfl trivial ?_
        refine e1 121 rfl ?_
        refine keep [0, 1, 2, 10, 11, 12, 33, 34, 35, 40, 41, 42, 55] rfl ?_
        refine q1 rfl (fun hc16 => ?_) (fun hc16 => ?_)
        · skip
          try simp only [cs, ne_eq] at hc16
          refine r0 ?_
          refine s1 12 121 1 rfl rfl rfl rfl rfl rfl trivial ?_
          refine e1 129 rfl ?_
          refine bn ?_
          refine tn ?_
          refine r0 ?_
          refine sA 56 129 1 rfl rfl rfl rfl rfl rfl rfl rfl rfl (by unfold inRange; omega) ?_
          refine s1 42 137 2 rfl rfl rfl rfl rfl rfl trivial ?_
          refine e1 145 rfl ?_
          refine tn ?_
          exact again ((j + 1 : Nat)) [0] (show (j + 1) ≤ l.length from (by omega)) (show l.length - (j + 1) < l.length - j from (by omega)) rfl ⟨rfl, rfl, rfl, rfl, rfl, (by show SV.b _ = SV.b _; rw [frstTo_succ]; simp only [Int.toNat_natCast] at hg16_49 hc16; first | (rw [decide_eq_false hg16_49, decide_eq_true hc16]; simp; done) | (rw [decide_eq_false hg16_49, decide_eq_false (Int.not_lt.2 hc16)]; simp; done) | (rw [decide_eq_true hg16_49]; simp; done)), rfl, rfl, rfl, rfl, rfl, rfl, trivial⟩ ⟨rfl, trivial⟩
        try simp only [cs, ne_eq] at hc16
        refine W_skip ?_
        refine bn ?_
        refine tn ?_
        refine r0 ?_
        refine sA 56 121 1 rfl rfl rfl rfl rfl rfl rfl rfl rfl (by unfold inRange; omega) ?_
        refine s1 42 129 2 rfl rfl rfl rfl rfl rfl trivial ?_
        refine e1 137 rfl ?_
        refine tn ?_
        exact again ((j + 1 : Nat)) [0] (show (j + 1) ≤ l.length from (by omega)) (show l.length - (j + 1) < l.length - j from (by omega)) rfl ⟨rfl, rfl, rfl, rfl, rfl, (by show SV.b _ = SV.b _; rw [frstTo_succ]; simp only [Int.toNat_natCast] at hg16_49 hc16; first | (rw [decide_eq_false hg16_49, decide_eq_true hc16]; simp; done) | (rw [decide_eq_false hg16_49, decide_eq_false (Int.not_lt.2 hc16)]; simp; done) | (rw [decide_eq_true hg16_49]; simp; done)), rfl, rfl, rfl, rfl, rfl, rfl, trivial⟩ ⟨rfl, trivial⟩
      try simp only [cs, ne_eq] at hg16_49
      refine g0 3 true 49 50 5 rfl rfl rfl rfl rfl rfl ?_
      refine g0 3 true 49 51 6 rfl rfl rfl rfl rfl rfl ?_
      refine g0 3 true 49 52 7 rfl rfl rfl rfl rfl rfl ?_
      refine g0 3 true 49 53 8 rfl rfl rfl rfl rfl rfl ?_
      refine g0 3 true 49 54 9 rfl rfl rfl rfl rfl rfl ?_
      refine s1 55 113 10 rfl rfl rfl rfl rfl rfl trivial ?_
      refine e1 121 rfl ?_
      refine keep [0, 1, 2, 10, 11, 12, 33, 34, 35, 40, 41, 42, 55] rfl ?_
      refine q1 rfl (fun hc16 => ?_) (fun hc16 => ?_)
      · skip
        exact absurd hc16 (by decide)
      try simp only [cs, ne_eq] at hc16
      refine W_skip ?_
      refine bn ?_
      refine tn ?_
      refine r0 ?_
      refine sA 56 121 1 rfl rfl rfl rfl rfl rfl rfl rfl rfl (by unfold inRange; omega) ?_
      refine s1 42 129 2 rfl rfl rfl rfl rfl rfl trivial ?_
      refine e1 137 rfl ?_
      refine tn ?_
      exact again ((j + 1 : Nat)) [0] (show (j + 1) ≤ l.length from (by omega)) (show l.length - (j + 1) < l.length - j from (by omega)) rfl ⟨rfl, rfl, rfl, rfl, rfl, (by show SV.b _ = SV.b _; rw [frstTo_succ]; simp only [Int.toNat_natCast] at hg16_49 hc16; first | (rw [decide_eq_false hg16_49, decide_eq_true hc16]; simp; done) | (rw [decide_eq_false hg16_49, decide_eq_false (Int.not_lt.2 hc16)]; simp; done) | (rw [decide_eq_true hg16_49]; simp; done)), rfl, rfl, rfl, rfl, rfl, rfl, trivial⟩ ⟨rfl, trivial⟩
    try simp only [cs, ne_eq] at hc14
    refine W_exit ?_
    refine tx ?_
    refine tx ?_
    refine bx ?_
    refine tn ?_
    refine W_seq ?_
    obtain rfl : j = l.length := (by omega)
    refine r1 ?_
    refine s1 57 9 1 rfl rfl rfl rfl rfl rfl trivial ?_
    refine s1 58 17 2 rfl rfl rfl rfl rfl rfl trivial ?_
    refine e1 25 rfl ?_
    refine keep [0, 1, 2, 10, 11, 33, 34, 35, 58] rfl ?_
    refine q1 rfl (fun hc19 => ?_) (fun hc19 => ?_)
    · skip
      try simp only [cs, ne_eq] at hc19
      refine W_exit ?_
      refine tx ?_
      refine bx ?_
      refine tn ?_
      refine r0 ?_
      refine sA 88 25 1 rfl rfl rfl rfl rfl rfl rfl rfl rfl (by unfold inRange; omega) ?_
      refine s1 35 33 2 rfl rfl rfl rfl rfl rfl trivial ?_
      refine e1 41 rfl ?_
      refine tn ?_
      exact again ((n + 1 : Nat)) [] (show (n + 1) ≤ l.length ∧ ∀ i, i < (n + 1) → ∀ f', f = f' + 1 → obr (ordB f') o l i = false from ⟨by omega, fun i hi f' hf => by by_cases e : i = n; (subst e; exact obr_frst (by simpa using hc19)); exact hno i (by omega) f' hf⟩) (show l.length - (n + 1) < l.length - n from (by omega)) rfl ⟨rfl, rfl, rfl, rfl, rfl, rfl, trivial⟩ trivial
    try simp only [cs, ne_eq] at hc19
    refine W_skip ?_
    refine tn ?_
    refine r1 ?_
    refine s1 60 25 1 rfl rfl rfl rfl rfl rfl trivial ?_
    refine s1 61 33 2 rfl rfl rfl rfl rfl rfl trivial ?_
    refine s1 62 41 3 rfl rfl rfl rfl rfl rfl (by first | trivial | omega) ?_
    refine c1 (tells_any (kindI o) (hasOf o) (l.getD n default) (by have := has_size o; omega) (fun h => by rw [has_one h]; exact Nat.le_refl _)) [] [] 63 49 4 rfl rfl rfl rfl rfl rfl rfl rfl Try.func18 rfl rfl rfl rfl trivial rfl rfl ?_
    refine val 63 (SV.tup [SV.i (onext o (l.getD n default)).2, intsV (hasOf (onext o (l.getD n default)).1)]) rfl (by rw [tell_ob]; rfl) ?_
    refine s1 59 57 5 rfl rfl rfl rfl rfl rfl trivial ?_
    refine s1 64 65 6 rfl rfl rfl rfl rfl rfl trivial ?_
    refine s1 65 73 7 rfl rfl rfl rfl rfl rfl trivial ?_
    refine s1 15 81 8 rfl rfl rfl rfl rfl rfl trivial ?_
    refine s1 16 89 9 rfl rfl rfl rfl rfl rfl trivial ?_
    refine e1 97 rfl ?_
    refine keep [0, 1, 2, 10, 11, 15, 16, 33, 34, 35] rfl ?_
    refine W_seq ?_
    refine r1 ?_
    refine s1 66 97 1 rfl rfl rfl rfl rfl rfl trivial ?_
    refine s1 67 105 2 rfl rfl rfl rfl rfl rfl (by first | trivial | omega) ?_
    refine s1 68 113 3 rfl rfl rfl rfl rfl rfl (by first | trivial | omega) ?_
    refine s1 69 121 4 rfl rfl rfl rfl rfl rfl trivial ?_
    refine ask 69 rfl (fun hg21_69 => ?_) (fun hg21_69 => ?_)
    · skip
      try simp only [cs, ne_eq] at hg21_69
      refine g1 3 true 69 70 5 rfl rfl rfl rfl rfl ?_
      refine s1 70 129 5 rfl rfl rfl rfl rfl rfl trivial ?_
      refine g1 3 true 69 71 6 rfl rfl rfl rfl rfl ?_
      refine s1 71 137 6 rfl rfl rfl rfl rfl rfl trivial ?_
      refine g1 3 true 69 72 7 rfl rfl rfl rfl rfl ?_
      refine s1 72 145 7 rfl rfl rfl rfl rfl rfl (by first | trivial | omega) ?_
      refine g1 3 true 69 73 8 rfl rfl rfl rfl rfl ?_
      refine s1 73 153 8 rfl rfl rfl rfl rfl rfl (by first | trivial | omega) ?_
      refine s1 74 161 9 rfl rfl rfl rfl rfl rfl trivial ?_
      refine e1 169 rfl ?_
      refine keep [0, 1, 2, 10, 16, 33, 34, 35, 74] rfl ?_
      refine q1 rfl (fun hc21 => ?_) (fun hc21 => ?_)
      · skip
        try simp only [cs, ne_eq] at hc21
        refine W_exit ?_
        refine tx ?_
        refine bx ?_
        refine tn ?_
        refine r0 ?_
        refine sA 88 169 1 rfl rfl rfl rfl rfl rfl rfl rfl rfl (by unfold inRange; omega) ?_
        refine s1 35 177 2 rfl rfl rfl rfl rfl rfl trivial ?_
        refine e1 185 rfl ?_
        refine tn ?_
        exact again ((n + 1 : Nat)) [] (show (n + 1) ≤ l.length ∧ ∀ i, i < (n + 1) → ∀ f', f = f' + 1 → obr (ordB f') o l i = false from ⟨by omega, fun i hi f' hf => by by_cases e : i = n; (subst e; exact obr_fit (by unfold fits; rw [decide_eq_false hg21_69, decide_eq_false hc21]; rfl)); exact hno i (by omega) f' hf⟩) (show l.length - (n + 1) < l.length - n from (by omega)) rfl ⟨rfl, rfl, rfl, rfl, rfl, rfl, trivial⟩ trivial
      try simp only [cs, ne_eq] at hc21
      refine W_skip ?_
      refine tn ?_
      obtain ⟨f1, hf1⟩ : ∃ f', f = f' + 1 := ⟨f - 1, by omega⟩
      have hIH2 : Spec Try.prog G0 14 [SV.i (kindI o), intsV (hasOf (onext o (l.getD n default)).1), actsV (l.eraseIdx n)] [] (fun r ho => r = SV.b (ordB f1 (onext o (l.getD n default)).1 (l.eraseIdx n)) ∧ ho = []) := by
        rw [← kindI_next o (l.getD n default)]; exact hIH f1 hf1 _ _ (by rw [erase_len (show n < l.length by omega)]; omega) (by have := onext_size o (l.getD n default); rw [erase_len (show n < l.length by omega)]; omega)
      refine rd1 rfl ?_
      refine d1 75 169 1 rfl rfl rfl rfl rfl rfl trivial ?_
      refine d1 76 177 2 rfl rfl rfl rfl rfl rfl trivial ?_
      refine d1 77 185 3 rfl rfl rfl rfl rfl rfl (by first | trivial | omega) ?_
      refine d1 78 193 4 rfl rfl rfl rfl rfl rfl ⟨trivial, (by show n * 40 ≤ 140737488355328; omega), (by simp only [maxLen]; omega)⟩ ?_
      refine d1 79 201 5 rfl rfl rfl rfl rfl rfl trivial ?_
      refine d1 80 209 6 rfl rfl rfl rfl rfl rfl trivial ?_
      refine dA 81 217 7 rfl rfl rfl rfl rfl rfl rfl rfl rfl (by unfold inRange; omega) ?_
      refine d1 82 225 8 rfl rfl rfl rfl rfl rfl (by first | trivial | omega) ?_
      refine d1 83 233 9 rfl rfl rfl rfl rfl rfl ⟨Nat.le_refl _, trivial, (by show (n + (l.length - (n + 1))) * 40 ≤ 140737488355328; omega), (by simp only [maxLen]; omega)⟩ ?_
      refine d1 17 241 10 rfl rfl rfl rfl rfl rfl trivial ?_
      refine de1 249 rfl (by kernel_rfl) ?_
      refine keep [0, 1, 2, 16, 17, 33, 34, 35] rfl ?_
      refine rowsc 233 (l.eraseIdx n).length (actF (l.eraseIdx n)) rfl (by rw [erase_len (show n < l.length by omega)]; show (n : Int).toNat - Int.toNat 0 + ((l.length : Int).toNat - ((n : Int) + 1).toNat) = _; omega) (fun i c hi hc => ?_) ?_
      · skip
        have hi2 : i < (n : Int).toNat - Int.toNat 0 + ((l.length : Int).toNat - ((n : Int) + 1).toNat) := hi
        show (if i < (n : Int).toNat - Int.toNat 0 then actF l i c else actF l (((n : Int) + 1).toNat + (i - ((n : Int).toNat - Int.toNat 0))) c) = _
        rw [show (n : Int).toNat - Int.toNat 0 = n by omega, show ((n : Int) + 1).toNat = n + 1 by omega, Nat.add_comm (n + 1)]
        exact erase_F l n i c (by omega) (by omega)
      refine cval 17 (.sl 233 0 (l.eraseIdx n).length) rfl (by rw [erase_len (show n < l.length by omega)]; show SV.sl 233 0 _ = SV.sl 233 0 _; congr 1; omega) ?_
      refine freeze 17 233 (l.eraseIdx n).length rfl rfl (Nat.le_refl _) ?_
      refine r1 ?_
      refine s1 84 249 1 rfl rfl rfl rfl rfl rfl trivial ?_
      refine s1 85 257 2 rfl rfl rfl rfl rfl rfl trivial ?_
      refine s1 86 265 3 rfl rfl rfl rfl rfl rfl trivial ?_
      refine c1 (hIH2) [] [] 87 273 4 rfl rfl rfl rfl rfl rfl rfl rfl Try.func14 rfl rfl rfl rfl trivial rfl rfl ?_
      refine e1 281 rfl ?_
      refine keep [0, 1, 2, 33, 34, 35, 87] rfl ?_
      refine q1 rfl (fun hc23 => ?_) (fun hc23 => ?_)
      · skip
        try simp only [cs, ne_eq] at hc23
        refine r1 ?_
        refine s1 6 281 1 rfl rfl rfl rfl rfl rfl trivial ?_
        refine e1 289 rfl ?_
        refine keep [6] rfl ?_
        refine W_ret ?_
        refine br ?_
        refine tr ?_
        refine tr ?_
        refine br ?_
        refine tr ?_
        exact out1 6 (SV.b (ordB f o l)) (π := []) (hout := []) Try.results14 rfl (by rw [ord_yes hf1 (show n < l.length by omega) (obr_yes (by simpa using hc19) (by unfold fits; first | (rw [decide_eq_true hg21_69]; rfl) | (rw [decide_eq_true hc21]; simp; done)) (by simpa using hc23))]; rfl) rfl rfl trivial ⟨rfl, rfl⟩
      try simp only [cs, ne_eq] at hc23
      refine W_skip ?_
      refine bn ?_
      refine tn ?_
      refine r0 ?_
      refine sA 88 281 1 rfl rfl rfl rfl rfl rfl rfl rfl rfl (by unfold inRange; omega) ?_
      refine s1 35 289 2 rfl rfl rfl rfl rfl rfl trivial ?_
      refine e1 297 rfl ?_
      refine tn ?_
      exact again ((n + 1 : Nat)) [] (show (n + 1) ≤ l.length ∧ ∀ i, i < (n + 1) → ∀ f', f = f' + 1 → obr (ordB f') o l i = false from ⟨by omega, fun i hi f' hf => by by_cases e : i = n; (subst e; exact obr_g (by obtain rfl : f1 = f' := (by omega); simpa using hc23)); exact hno i (by omega) f' hf⟩) (show l.length - (n + 1) < l.length - n from (by omega)) rfl ⟨rfl, rfl, rfl, rfl, rfl, rfl, trivial⟩ trivial
    try simp only [cs, ne_eq] at hg21_69
    refine g0 3 true 69 70 5 rfl rfl rfl rfl rfl rfl ?_
    refine g0 3 true 69 71 6 rfl rfl rfl rfl rfl rfl ?_
    refine g0 3 true 69 72 7 rfl rfl rfl rfl rfl rfl ?_
    refine g0 3 true 69 73 8 rfl rfl rfl rfl rfl rfl ?_
    refine s1 74 161 9 rfl rfl rfl rfl rfl rfl trivial ?_
    refine e1 169 rfl ?_
    refine keep [0, 1, 2, 10, 16, 33, 34, 35, 74] rfl ?_
    refine q1 rfl (fun hc21 => ?_) (fun hc21 => ?_)
    · skip
      exact absurd hc21 (by decide)
    try simp only [cs, ne_eq] at hc21
    refine W_skip ?_
    refine tn ?_
    obtain ⟨f1, hf1⟩ : ∃ f', f = f' + 1 := ⟨f - 1, by omega⟩
    have hIH2 : Spec Try.prog G0 14 [SV.i (kindI o), intsV (hasOf (onext o (l.getD n default)).1), actsV (l.eraseIdx n)] [] (fun r ho => r = SV.b (ordB f1 (onext o (l.getD n default)).1 (l.eraseIdx n)) ∧ ho = []) := by
      rw [← kindI_next o (l.getD n default)]; exact hIH f1 hf1 _ _ (by rw [erase_len (show n < l.length by omega)]; omega) (by have := onext_size o (l.getD n default); rw [erase_len (show n < l.length by omega)]; omega)
    refine rd1 rfl ?_
    refine d1 75 169 1 rfl rfl rfl rfl rfl rfl trivial ?_
    refine d1 76 177 2 rfl rfl rfl rfl rfl rfl trivial ?_
    refine d1 77 185 3 rfl rfl rfl rfl rfl rfl (by first | trivial | omega) ?_
    refine d1 78 193 4 rfl rfl rfl rfl rfl rfl ⟨trivial, (by show n * 40 ≤ 140737488355328; omega), (by simp only [maxLen]; omega)⟩ ?_
    refine d1 79 201 5 rfl rfl rfl rfl rfl rfl trivial ?_
    refine d1 80 209 6 rfl rfl rfl rfl rfl rfl trivial ?_
    refine dA 81 217 7 rfl rfl rfl rfl rfl rfl rfl rfl rfl (by unfold inRange; omega) ?_
    refine d1 82 225 8 rfl rfl rfl rfl rfl rfl (by first | trivial | omega) ?_
    refine d1 83 233 9 rfl rfl rfl rfl rfl rfl ⟨Nat.le_refl _, trivial, (by show (n + (l.length - (n + 1))) * 40 ≤ 140737488355328; omega), (by simp only [maxLen]; omega)⟩ ?_
    refine d1 17 241 10 rfl rfl rfl rfl rfl rfl trivial ?_
    refine de1 249 rfl (by kernel_rfl) ?_
    refine keep [0, 1, 2, 16, 17, 33, 34, 35] rfl ?_
    refine rowsc 233 (l.eraseIdx n).length (actF (l.eraseIdx n)) rfl (by rw [erase_len (show n < l.length by omega)]; show (n : Int).toNat - Int.toNat 0 + ((l.length : Int).toNat - ((n : Int) + 1).toNat) = _; omega) (fun i c hi hc => ?_) ?_
    · skip
      have hi2 : i < (n : Int).toNat - Int.toNat 0 + ((l.length : Int).toNat - ((n : Int) + 1).toNat) := hi
      show (if i < (n : Int).toNat - Int.toNat 0 then actF l i c else actF l (((n : Int) + 1).toNat + (i - ((n : Int).toNat - Int.toNat 0))) c) = _
      rw [show (n : Int).toNat - Int.toNat 0 = n by omega, show ((n : Int) + 1).toNat = n + 1 by omega, Nat.add_comm (n + 1)]
      exact erase_F l n i c (by omega) (by omega)
    refine cval 17 (.sl 233 0 (l.eraseIdx n).length) rfl (by rw [erase_len (show n < l.length by omega)]; show SV.sl 233 0 _ = SV.sl 233 0 _; congr 1; omega) ?_
    refine freeze 17 233 (l.eraseIdx n).length rfl rfl (Nat.le_refl _) ?_
    refine r1 ?_
    refine s1 84 249 1 rfl rfl rfl rfl rfl rfl trivial ?_
    refine s1 85 257 2 rfl rfl rfl rfl rfl rfl trivial ?_
    refine s1 86 265 3 rfl rfl rfl rfl rfl rfl trivial ?_
    refine c1 (hIH2) [] [] 87 273 4 rfl rfl rfl rfl rfl rfl rfl rfl Try.func14 rfl rfl rfl rfl trivial rfl rfl ?_
    refine e1 281 rfl ?_
    refine keep [0, 1, 2, 33, 34, 35, 87] rfl ?_
    refine q1 rfl (fun hc23 => ?_) (fun hc23 => ?_)
    · skip
      try simp only [cs, ne_eq] at hc23
      refine r1 ?_
      refine s1 6 281 1 rfl rfl rfl rfl rfl rfl trivial ?_
      refine e1 289 rfl ?_
      refine keep [6] rfl ?_
      refine W_ret ?_
      refine br ?_
      refine tr ?_
      refine tr ?_
      refine br ?_
      refine tr ?_
      exact out1 6 (SV.b (ordB f o l)) (π := []) (hout := []) Try.results14 rfl (by rw [ord_yes hf1 (show n < l.length by omega) (obr_yes (by simpa using hc19) (by unfold fits; first | (rw [decide_eq_true hg21_69]; rfl) | (rw [decide_eq_true hc21]; simp; done)) (by simpa using hc23))]; rfl) rfl rfl trivial ⟨rfl, rfl⟩
    try simp only [cs, ne_eq] at hc23
    refine W_skip ?_
    refine bn ?_
    refine tn ?_
    refine r0 ?_
    refine sA 88 281 1 rfl rfl rfl rfl rfl rfl rfl rfl rfl (by unfold inRange; omega) ?_
    refine s1 35 289 2 rfl rfl rfl rfl rfl rfl trivial ?_
    refine e1 297 rfl ?_
    refine tn ?_
    exact again ((n + 1 : Nat)) [] (show (n + 1) ≤ l.length ∧ ∀ i, i < (n + 1) → ∀ f', f = f' + 1 → obr (ordB f') o l i = false from ⟨by omega, fun i hi f' hf => by by_cases e : i = n; (subst e; exact obr_g (by obtain rfl : f1 = f' := (by omega); simpa using hc23)); exact hno i (by omega) f' hf⟩) (show l.length - (n + 1) < l.length - n from (by omega)) rfl ⟨rfl, rfl, rfl, rfl, rfl, rfl, trivial⟩ trivial
  try simp only [cs, ne_eq] at hc10
  refine W_exit ?_
  refine tx ?_
  refine tx ?_
  refine bx ?_
  refine tn ?_
  refine r1 ?_
  refine s1 6 8 1 rfl rfl rfl rfl rfl rfl trivial ?_
  refine e1 16 rfl ?_
  refine keep [6] rfl ?_
  refine W_ret ?_
  have e : n = l.length := (by omega)
  subst e
  exact out1 6 (SV.b (ordB f o l)) (π := []) (hout := []) Try.results14 rfl (by obtain ⟨f', hf⟩ : ∃ f', f = f' + 1 := ⟨f - 1, by rcases Nat.eq_zero_or_pos l.length with h0 | h0; (rw [mustTo, h0] at hmust; cases hmust); omega⟩; rw [ord_none hf hmust (fun i hi => hno i hi f' hf)]; rfl) rfl rfl trivial ⟨rfl, rfl⟩

theorem ordered_any : ∀ (f : Nat) (o : Ob) (l : List Act), l.length = f → osize o + l.length ≤ 9 → Spec Try.prog G0 14 [SV.i (kindI o), intsV (hasOf o), actsV l] [] (fun r ho => r = SV.b (ordB f o l) ∧ ho = []) := by
  intro f
  induction f with
  | zero => intro o l hl hs; exact ordered_step 0 (fun f' e => by omega) o l hl hs
  | succ f ih => intro o l hl hs; exact ordered_step (f + 1) (fun f' e => by obtain rfl : f = f' := (by omega); exact ih) o l hl hs
end Go.Proofs.Ytdjphneoecebmaa.Nice
