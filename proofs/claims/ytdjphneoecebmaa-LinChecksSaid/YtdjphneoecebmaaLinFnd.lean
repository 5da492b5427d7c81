/- Whether objects are the same; which are among those seen; whether an act may come now. -/
import Derived.Test.YtdjphneoecebmaaLinObj
namespace Go.Proofs.Ytdjphneoecebmaa.Nice
open Go
set_option linter.unusedVariables false
set_option linter.unusedSimpArgs false
set_option maxRecDepth 100000
set_option maxHeartbeats 4000000

def T : Nat → Nat
  | 0 => 1
  | f + 1 => 1 + 9 * T f
def Tp : Nat → Nat
  | 0 => 0
  | f + 1 => T f
theorem T_eq (f : Nat) : 1 + 9 * Tp f = T f := by cases f <;> rfl
theorem T_big : ∀ f, f ≤ 9 → T f ≤ 1000000000 := by decide
def unset (n m : Nat) : Nat := ((List.range n).filter fun k => !m.testBit k).length
def allTo (L : List Act) (m n : Nat) : Bool := (List.range n).all fun k => decide ((L.getD k default).e = -1) || m.testBit k
def rdyTo (L : List Act) (m i n : Nat) : Bool := (List.range n).all fun k => m.testBit k || (decide ((L.getD k default).e = -1) || !decide ((L.getD k default).e < (L.getD i default).b))
def fits (o : Ob) (a : Act) : Bool := decide (a.e = -1) || decide ((onext o a).2 = a.v)
def brn (G : Nat → Ob → Bool) (L : List Act) (m : Nat) (o : Ob) (i : Nat) : Bool := !m.testBit i && (rdyTo L m i L.length && (fits o (L.getD i default) && G (m ||| 2 ^ i) (onext o (L.getD i default)).1))
def Fs (L : List Act) : Nat → Nat → Ob → Bool
  | 0, m, o => allTo L m L.length
  | f + 1, m, o => allTo L m L.length || (List.range L.length).any (brn (Fs L f) L m o)
def FF (L : List Act) (m : Nat) (o : Ob) : Bool := Fs L (unset L.length m) m o
theorem or_bit (m i k : Nat) : (m ||| 2 ^ i).testBit k = (m.testBit k || decide (i = k)) := by rw [Nat.testBit_or, Nat.testBit_two_pow]
theorem filter_out (i : Nat) : ∀ (l : List Nat) (p : Nat → Bool), l.Nodup → i ∈ l → p i = true → (l.filter p).length = (l.filter fun k => p k && !decide (i = k)).length + 1
  | [], p, _, h, _ => by cases h
  | a :: l, p, hn, hm, hp => by
    obtain ⟨hn1, hn2⟩ := List.nodup_cons.1 hn
    by_cases e : i = a
    · subst e
      have : (l.filter fun k => p k && !decide (i = k)) = l.filter p := by
        apply List.filter_congr
        intro k hk
        have : i ≠ k := fun h => hn1 (h ▸ hk)
        simp [this]
      rw [List.filter_cons_of_pos hp, List.filter_cons_of_neg (by simp), this]; rfl
    · have ih := filter_out i l p hn2 (by rcases List.mem_cons.1 hm with h | h; exact absurd h e; exact h) hp
      by_cases hpa : p a = true
      · rw [List.filter_cons_of_pos hpa, List.filter_cons_of_pos (by simp [hpa, e])]
        simp only [List.length_cons]; omega
      · rw [List.filter_cons_of_neg hpa, List.filter_cons_of_neg (by simp [hpa])]
        exact ih
theorem unset_or {n m i : Nat} (hi : i < n) (hb : m.testBit i = false) : unset n m = unset n (m ||| 2 ^ i) + 1 := by
  unfold unset
  rw [filter_out i (List.range n) _ List.nodup_range (List.mem_range.2 hi) (by simp [hb])]
  congr 2
  apply List.filter_congr
  intro k _
  rw [or_bit]; cases m.testBit k <;> simp
theorem unset_zero {n m i : Nat} (h : unset n m = 0) (hi : i < n) : m.testBit i = true := by
  unfold unset at h
  have := List.length_eq_zero_iff.1 h
  rw [List.filter_eq_nil_iff] at this
  have := this i (List.mem_range.2 hi)
  simpa using this
theorem FF_eq (L : List Act) (m : Nat) (o : Ob) : FF L m o = (allTo L m L.length || (List.range L.length).any (brn (FF L) L m o)) := by
  unfold FF
  cases hu : unset L.length m with
  | zero =>
    have : (List.range L.length).any (brn (fun m o => Fs L (unset L.length m) m o) L m o) = false := by
      rw [List.any_eq_false]
      intro i hi
      unfold brn
      rw [unset_zero hu (List.mem_range.1 hi)]; simp
    show allTo L m L.length = _
    rw [this, Bool.or_false]
  | succ f =>
    show (allTo L m L.length || (List.range L.length).any (brn (Fs L f) L m o)) = _
    congr 1
    apply Bool.eq_iff_iff.2
    rw [List.any_eq_true, List.any_eq_true]
    have key : ∀ i, i ∈ List.range L.length → brn (Fs L f) L m o i = brn (FF L) L m o i := by
      intro i hi
      unfold brn
      cases hb : m.testBit i with
      | true => rfl
      | false =>
        have := unset_or (n := L.length) (List.mem_range.1 hi) hb
        unfold FF
        rw [show unset L.length (m ||| 2 ^ i) = f by omega]
    constructor
    · rintro ⟨i, hi, h⟩; exact ⟨i, hi, (key i hi).symm.trans h⟩
    · rintro ⟨i, hi, h⟩; exact ⟨i, hi, (key i hi).trans h⟩
theorem allTo_succ (L : List Act) (m n : Nat) : allTo L m (n + 1) = (allTo L m n && (decide ((L.getD n default).e = -1) || m.testBit n)) := by
  unfold allTo; rw [List.range_succ, List.all_append]; simp
theorem rdyTo_succ (L : List Act) (m i n : Nat) : rdyTo L m i (n + 1) = (rdyTo L m i n && (m.testBit n || (decide ((L.getD n default).e = -1) || !decide ((L.getD n default).e < (L.getD i default).b)))) := by
  unfold rdyTo; rw [List.range_succ, List.all_append]; simp
theorem rdyTo_false {L : List Act} {m i n : Nat} (hn : n < L.length) (h : (m.testBit n || (decide ((L.getD n default).e = -1) || !decide ((L.getD n default).e < (L.getD i default).b))) = false) : rdyTo L m i L.length = false := by
  unfold rdyTo
  rw [List.all_eq_false]
  exact ⟨n, List.mem_range.2 hn, by rw [h]; decide⟩
theorem FF_all {L : List Act} {m : Nat} {o : Ob} (h : allTo L m L.length = true) : FF L m o = true := by rw [FF_eq, h]; rfl
theorem FF_br {L : List Act} {m : Nat} {o : Ob} {i : Nat} (hi : i < L.length) (h : brn (FF L) L m o i = true) : FF L m o = true := by
  rw [FF_eq, Bool.or_eq_true]; right; rw [List.any_eq_true]; exact ⟨i, List.mem_range.2 hi, h⟩
theorem FF_no {L : List Act} {m : Nat} {o : Ob} (h : allTo L m L.length = false) (h2 : ∀ i, i < L.length → brn (FF L) L m o i = false) : FF L m o = false := by
  rw [FF_eq, h, Bool.false_or, List.any_eq_false]
  intro i hi; rw [h2 i (List.mem_range.1 hi)]; decide
theorem osame_eq {o x : Ob} (hk : okind o = okind x) (h : osame o x = true) : o = x := by
  cases o with
  | reg n => cases x with
    | reg m => simp [osame] at h; rw [h]
    | cnt m => cases hk
    | hp b l => cases b <;> cases hk
  | cnt n => cases x with
    | reg m => cases hk
    | cnt m => simp [osame] at h; rw [h]
    | hp b l => cases b <;> cases hk
  | hp b l => cases x with
    | reg m => cases b <;> cases hk
    | cnt m => cases b <;> cases hk
    | hp c k =>
      simp [osame] at h; subst h
      cases b <;> cases c <;> first | rfl | cases hk
theorem onext_kind (o : Ob) (a : Act) : okind (onext o a).1 = okind o := by
  cases o with
  | reg n => cases h : a.p with
    | true => rw [onext_reg_put h]; rfl
    | false => rw [onext_reg_get h]
  | cnt n => rfl
  | hp b l =>
    cases h : a.p with
    | true => rw [onext_put h]; cases b <;> rfl
    | false =>
      by_cases h2 : l.length = 0
      · rw [onext_none h h2]
      · cases b with
        | true => rw [onext_last h h2 rfl]; rfl
        | false => rw [onext_first h h2 rfl]; rfl
theorem onext_size (o : Ob) (a : Act) : osize (onext o a).1 ≤ osize o + 1 := by
  cases o with
  | reg n => cases h : a.p with
    | true => rw [onext_reg_put h]; exact Nat.zero_le _
    | false => rw [onext_reg_get h]; exact Nat.zero_le _
  | cnt n => exact Nat.zero_le _
  | hp b l =>
    cases h : a.p with
    | true => rw [onext_put h]; show (l ++ [a.v]).length ≤ l.length + 1; simp
    | false =>
      by_cases h2 : l.length = 0
      · rw [onext_none h h2]; exact Nat.le_succ _
      · cases b with
        | true => rw [onext_last h h2 rfl]; show (l.take _).length ≤ l.length + 1; rw [List.length_take]; omega
        | false => rw [onext_first h h2 rfl]; show (l.drop 1).length ≤ l.length + 1; rw [List.length_drop]; omega

def methPr (o : Ob) : MP := ⟨fun M v => ∃ w, v = .func (.method "barograph/lin.same") #[w] #[] ∧ obPr M o w, fun M M' v hM h => by obtain ⟨w, e, hw⟩ := h; exact ⟨w, e, (objP o).mono M M' w hM hw⟩, fun M v h => by obtain ⟨w, rfl, _⟩ := h; rfl⟩
def methV (o : Ob) : SV := .d (.pr (methPr o))
theorem meth_of {M : Imm} {ρ : Names} {o : Ob} {x : Value} (h : VR M ρ (objV o) x) : VR M ρ (methV o) (.func (.method "barograph/lin.same") #[x] #[]) := pr_mk ⟨x, rfl, pr_case h⟩
theorem obj_iface {M : Imm} {ρ : Names} {o : Ob} {x : Value} (h : VR M ρ (objV o) x) : ∃ T z, x = .iface T z := obPr_iface (pr_case h)

theorem ext_getD {x y : List Int} (h : x.length = y.length) (h2 : ∀ j, j < x.length → x.getD j 0 = y.getD j 0) : x = y := by
  apply List.ext_getElem h
  intro j h3 h4
  have := h2 j h3
  rw [getG h3, getG h4] at this; exact this
theorem equalI_any (x y : List Int) (hx : x.length ≤ 9223372036854775807) : Spec Try.prog G0 42 [intsV x, intsV y] [] (fun r ho => r = SV.b (decide (x = y)) ∧ ho = []) := by
  have hxl := hx
  refine start 26 0 Try.func42 rfl rfl rfl rfl ?_
  refine r1 ?_
  refine s1 4 0 1 rfl rfl rfl rfl rfl rfl trivial ?_
  refine e1 8 rfl ?_
  refine keep [0, 1] rfl ?_
  refine W_seq ?_
  refine r1 ?_
  refine s1 6 8 1 rfl rfl rfl rfl rfl rfl trivial ?_
  refine s1 7 16 2 rfl rfl rfl rfl rfl rfl (by first | trivial | omega) ?_
  refine s1 8 24 3 rfl rfl rfl rfl rfl rfl trivial ?_
  refine s1 9 32 4 rfl rfl rfl rfl rfl rfl (by first | trivial | omega) ?_
  refine s1 10 40 5 rfl rfl rfl rfl rfl rfl (by first | trivial | omega) ?_
  refine e1 48 rfl ?_
  refine keep [0, 1, 10] rfl ?_
  refine q1 rfl (fun hc1 => ?_) (fun hc1 => ?_)
  · skip
    try simp only [cs, ne_eq] at hc1
    refine r1 ?_
    refine s1 4 48 1 rfl rfl rfl rfl rfl rfl trivial ?_
    refine e1 56 rfl ?_
    refine keep [4] rfl ?_
    refine W_ret ?_
    refine tr ?_
    exact out1 4 (SV.b (decide (x = y))) (π := []) (hout := []) Try.results42 rfl (by show SV.b _ = SV.b _; rw [decide_eq_false (by rintro rfl; exact hc1 rfl)]) rfl rfl trivial ⟨rfl, rfl⟩
  try simp only [cs, ne_eq] at hc1
  refine W_skip ?_
  refine tn ?_
  refine W_seq ?_
  refine r1 ?_
  refine s1 11 48 1 rfl rfl rfl rfl rfl rfl trivial ?_
  refine s1 12 56 2 rfl rfl rfl rfl rfl rfl (by first | trivial | omega) ?_
  refine s1 13 64 3 rfl rfl rfl rfl rfl rfl trivial ?_
  refine e1 72 rfl ?_
  refine keep [0, 1, 12, 13] rfl ?_
  refine W_block ?_
  refine loop (α := Nat) 0 (fun n => [(0, intsV x), (1, intsV y), (12, SV.i x.length), (13, SV.i (n))]) (fun n => []) (fun n => (n) ≤ x.length ∧ ∀ j, j < (n) → x.getD j 0 = y.getD j 0) (fun n => x.length - (n)) (((0) : Nat)) [] (fun _ => rfl) (show (0) ≤ x.length ∧ ∀ j, j < (0) → x.getD j 0 = y.getD j 0 from ⟨Nat.zero_le _, fun j hj => by omega⟩) rfl ⟨rfl, rfl, rfl, rfl, trivial⟩ trivial (fun n hx => ?_)
  show W _ _ _ ⟨tOf [(0, intsV x), (1, intsV y), (12, SV.i x.length), (13, SV.i n)], hOf [], 0⟩
  have hx : n ≤ x.length ∧ ∀ j, j < n → x.getD j 0 = y.getD j 0 := hx
  obtain ⟨hn, hno⟩ := hx
  refine r1 ?_
  refine s1 14 0 1 rfl rfl rfl rfl rfl rfl (by first | trivial | omega) ?_
  refine e1 8 rfl ?_
  refine keep [0, 1, 12, 13, 14] rfl ?_
  refine W_seq ?_
  refine q1 rfl (fun hc4 => ?_) (fun hc4 => ?_)
  · skip
    try simp only [cs, ne_eq] at hc4
    refine W_skip ?_
    refine tn ?_
    refine W_seq ?_
    refine W_block ?_
    refine r1 ?_
    refine s1 15 8 1 rfl rfl rfl rfl rfl rfl trivial ?_
    refine s1 5 16 2 rfl rfl rfl rfl rfl rfl trivial ?_
    refine e1 24 rfl ?_
    refine keep [0, 1, 5, 12, 13] rfl ?_
    refine rd1 rfl ?_
    refine d1 16 24 1 rfl rfl rfl rfl rfl rfl trivial ?_
    refine d1 17 32 2 rfl rfl rfl rfl rfl rfl trivial ?_
    refine d1 18 40 3 rfl rfl rfl rfl rfl rfl (by first | trivial | omega) ?_
    refine d1 19 48 4 rfl rfl rfl rfl rfl rfl (by first | trivial | omega) ?_
    refine d1 20 56 5 rfl rfl rfl rfl rfl rfl trivial ?_
    refine d1 21 64 6 rfl rfl rfl rfl rfl rfl trivial ?_
    refine d1 22 72 7 rfl rfl rfl rfl rfl rfl (by first | trivial | omega) ?_
    refine d1 23 80 8 rfl rfl rfl rfl rfl rfl (by first | trivial | omega) ?_
    refine d1 24 88 9 rfl rfl rfl rfl rfl rfl (by first | trivial | omega) ?_
    refine de1 96 rfl (by kernel_rfl) ?_
    refine keep [0, 1, 12, 13, 24] rfl ?_
    refine q1 rfl (fun hc6 => ?_) (fun hc6 => ?_)
    · skip
      try simp only [cs, ne_eq] at hc6
      refine r1 ?_
      refine s1 4 96 1 rfl rfl rfl rfl rfl rfl trivial ?_
      refine e1 104 rfl ?_
      refine keep [4] rfl ?_
      refine W_ret ?_
      refine br ?_
      refine tr ?_
      refine tr ?_
      refine br ?_
      refine tr ?_
      exact out1 4 (SV.b (decide (x = y))) (π := []) (hout := []) Try.results42 rfl (by show SV.b _ = SV.b _; rw [decide_eq_false (by rintro rfl; exact hc6 rfl)]) rfl rfl trivial ⟨rfl, rfl⟩
    try simp only [cs, ne_eq] at hc6
    refine W_skip ?_
    refine bn ?_
    refine tn ?_
    refine r0 ?_
    refine sA 25 96 1 rfl rfl rfl rfl rfl rfl rfl rfl rfl (by unfold inRange; omega) ?_
    refine s1 13 104 2 rfl rfl rfl rfl rfl rfl trivial ?_
    refine e1 112 rfl ?_
    refine tn ?_
    exact again ((n + 1 : Nat)) [] (show (n + 1) ≤ x.length ∧ ∀ j, j < (n + 1) → x.getD j 0 = y.getD j 0 from ⟨by omega, fun j hj => by by_cases e : j = n; (subst e; simp only [Int.toNat_natCast] at hc6; exact hc6); exact hno j (by omega)⟩) (show x.length - (n + 1) < x.length - n from (by omega)) rfl ⟨rfl, rfl, rfl, rfl, trivial⟩ trivial
  try simp only [cs, ne_eq] at hc4
  refine W_exit ?_
  refine tx ?_
  refine tx ?_
  refine bx ?_
  refine tn ?_
  refine r1 ?_
  refine s1 4 8 1 rfl rfl rfl rfl rfl rfl trivial ?_
  refine e1 16 rfl ?_
  refine keep [4] rfl ?_
  refine W_ret ?_
  exact out1 4 (SV.b (decide (x = y))) (π := []) (hout := []) Try.results42 rfl (by show SV.b _ = SV.b _; rw [decide_eq_true (ext_getD (by omega) (fun j hj => hno j (by omega)))]) rfl rfl trivial ⟨rfl, rfl⟩

theorem reg_same (n m : Int) : Spec Try.prog G0 36 [SV.i n, objV (.reg m)] [] (fun r ho => r = SV.b (osame (.reg n) (.reg m)) ∧ ho = []) := by
  refine start 9 0 Try.func36 rfl rfl rfl rfl ?_
  refine r1 ?_
  refine s1 4 0 1 rfl rfl rfl rfl rfl rfl trivial ?_
  refine e1 8 rfl ?_
  refine keep [0, 1] rfl ?_
  refine r1 ?_
  refine s1 5 8 1 rfl rfl rfl rfl rfl rfl trivial ?_
  refine sAsrt (SV.i m) 6 16 2 rfl rfl rfl rfl rfl rfl Try.underlying36 rfl rfl (fun M ρ x h => reg_case h) ?_
  refine s1 7 24 3 rfl rfl rfl rfl rfl rfl trivial ?_
  refine s1 8 32 4 rfl rfl rfl rfl rfl rfl (by first | trivial | omega) ?_
  refine s1 4 40 5 rfl rfl rfl rfl rfl rfl trivial ?_
  refine e1 48 rfl ?_
  refine keep [4] rfl ?_
  refine W_ret ?_
  exact out1 4 (SV.b (osame (.reg n) (.reg m))) (π := []) (hout := []) Try.results36 rfl rfl rfl rfl trivial ⟨rfl, rfl⟩

theorem cnt_same (n m : Int) : Spec Try.prog G0 38 [SV.i n, objV (.cnt m)] [] (fun r ho => r = SV.b (osame (.cnt n) (.cnt m)) ∧ ho = []) := by
  refine start 9 0 Try.func38 rfl rfl rfl rfl ?_
  refine r1 ?_
  refine s1 4 0 1 rfl rfl rfl rfl rfl rfl trivial ?_
  refine e1 8 rfl ?_
  refine keep [0, 1] rfl ?_
  refine r1 ?_
  refine s1 5 8 1 rfl rfl rfl rfl rfl rfl trivial ?_
  refine sAsrt (SV.i m) 6 16 2 rfl rfl rfl rfl rfl rfl Try.underlying37 rfl rfl (fun M ρ x h => cnt_case h) ?_
  refine s1 7 24 3 rfl rfl rfl rfl rfl rfl trivial ?_
  refine s1 8 32 4 rfl rfl rfl rfl rfl rfl (by first | trivial | omega) ?_
  refine s1 4 40 5 rfl rfl rfl rfl rfl rfl trivial ?_
  refine e1 48 rfl ?_
  refine keep [4] rfl ?_
  refine W_ret ?_
  exact out1 4 (SV.b (osame (.cnt n) (.cnt m))) (π := []) (hout := []) Try.results38 rfl rfl rfl rfl trivial ⟨rfl, rfl⟩

theorem hp_same (b c : Bool) (l k : List Int) (hk : k.length ≤ 9223372036854775807) : Spec Try.prog G0 40 [.agg [SV.b b, intsV l], objV (.hp c k)] [] (fun r ho => r = SV.b (osame (.hp b l) (.hp c k)) ∧ ho = []) := by
  refine start 11 0 Try.func40 rfl rfl rfl rfl ?_
  refine r1 ?_
  refine s1 2 0 1 rfl rfl rfl rfl rfl rfl trivial ?_
  refine s1 4 8 2 rfl rfl rfl rfl rfl rfl trivial ?_
  refine e1 16 rfl ?_
  refine keep [1, 2] rfl ?_
  refine rd1 rfl ?_
  refine d1 5 16 1 rfl rfl rfl rfl rfl rfl trivial ?_
  refine dAsrt (.agg [SV.b c, intsV k]) 6 24 2 rfl rfl rfl rfl rfl rfl Try.underlying40 rfl rfl (fun M ρ x h => hp_case h) ?_
  refine d1 7 32 3 rfl rfl rfl rfl rfl rfl trivial ?_
  refine d1 8 40 4 rfl rfl rfl rfl rfl rfl trivial ?_
  refine d1 9 48 5 rfl rfl rfl rfl rfl rfl (by first | trivial | omega) ?_
  refine dc1 (equalI_any k l hk) [] [] 10 56 6 rfl rfl rfl rfl rfl rfl rfl rfl Try.func42 rfl rfl rfl rfl trivial rfl rfl ?_
  refine d1 4 64 7 rfl rfl rfl rfl rfl rfl trivial ?_
  refine de1 72 rfl (by kernel_rfl) ?_
  refine keep [4] rfl ?_
  refine W_ret ?_
  exact out1 4 (SV.b (osame (.hp b l) (.hp c k))) (π := []) (hout := []) Try.results40 rfl rfl rfl rfl trivial ⟨rfl, rfl⟩

theorem out_one {C : Ctx} {o : Oper} {nm : Nat} {v : Operand → SV} {r : SV} (hr : ∀ π, ren π r = r) (h : OpOK C o nm v (bsOf [] [] []) (fun u wr => ∃ r' hout π2, (r' = r ∧ hout = []) ∧ π2 = [] ++ newNames nm (hout.length - ([] : List Blk).length) ∧ u = ren π2 r' ∧ wr = wrOf π2 π2 hout)) : OpOK C o nm v [] (fun x z => x = r ∧ z = []) :=
  fun M F ρ a h0 w h1 h2 h3 h4 h5 K Q hK => h M F ρ a h0 w h1 h2 h3 h4 h5 K Q fun M' ρ' u wr u' w' g1 g2 g3 g4 => hK M' ρ' u wr u' w' g1 g2 g3 (by
    obtain ⟨r', ho', π2, ⟨rfl, rfl⟩, rfl, rfl, rfl⟩ := g4
    exact ⟨hr _, rfl⟩)
theorem same_call {sz m : Nat} {o : Oper} {nm : Nat} {v : Operand → SV} {y z : Operand} {tys : Array TypeId} {ob x : Ob} (ho : o.op = .call { callee := .value y, args := #[z], argTypes := tys }) (hy : v y = methV ob) (hz : v z = objV x) (hk : okind ob = okind x) (hs : osize x ≤ 9223372036854775807) : OpOK ⟨Try.prog, sz, m, G0⟩ o nm v [] (fun r wr => r = SV.b (osame ob x) ∧ wr = []) := by
  have my : y ∈ o.op.operands := by rw [ho]; simp [Op.operands, Call.operands]
  have mz : z ∈ o.op.operands := by rw [ho]; simp [Op.operands, Call.operands]
  have fin : ∀ (M : Imm) (ρ : Names) (q : SV) (qv zv : Value), VR M ρ (ren [] q) qv → VR M ρ (objV x) zv → ∀ (i : Nat) (s : SV), ([q, objV x] : List SV)[i]? = some s → ∃ u, (#[qv, zv] : Array Value)[i]? = some u ∧ VR M ρ (ren [] s) u := by
    intro M ρ q qv zv h1 h2 i s hs
    match i, hs with
    | 0, hs => cases hs; exact ⟨_, rfl, h1⟩
    | 1, hs => cases hs; exact ⟨_, rfl, h2⟩
    | n + 2, hs => simp at hs
  have cat : ∀ (a : Go.Act) (qv : Value), (#[qv] ++ (#[z] : Array Operand).map a.eval : Array Value) = #[qv, a.eval z] := by intro a qv; simp
  cases ob with
  | reg n => cases x with
    | reg p =>
      refine out_one (fun π => rfl) (enter_ok (C := ⟨Try.prog, sz, m, G0⟩) (reg_same n p) [] (fun M ρ a w hv => ?_) rfl)
      have e1 := hv y my; rw [hy] at e1
      have e2 := hv z mz; rw [hz] at e2
      obtain ⟨wv, hf, rfl⟩ := pr_case e1
      exact ⟨_, (run_methVal ho Try.func36 rfl hf w (by kernel_rfl)).trans (by rw [cat]), rfl, fin M ρ (SV.i n) _ _ (.d _ _ (.val _ rfl)) e2⟩
    | cnt p => cases hk
    | hp b l => cases b <;> cases hk
  | cnt n => cases x with
    | reg p => cases hk
    | cnt p =>
      refine out_one (fun π => rfl) (enter_ok (C := ⟨Try.prog, sz, m, G0⟩) (cnt_same n p) [] (fun M ρ a w hv => ?_) rfl)
      have e1 := hv y my; rw [hy] at e1
      have e2 := hv z mz; rw [hz] at e2
      obtain ⟨wv, hf, rfl⟩ := pr_case e1
      exact ⟨_, (run_methVal ho Try.func38 rfl hf w (by kernel_rfl)).trans (by rw [cat]), rfl, fin M ρ (SV.i n) _ _ (.d _ _ (.val _ rfl)) e2⟩
    | hp b l => cases b <;> cases hk
  | hp b l => cases x with
    | reg p => cases b <;> cases hk
    | cnt p => cases b <;> cases hk
    | hp c k =>
      refine out_one (fun π => rfl) (enter_ok (C := ⟨Try.prog, sz, m, G0⟩) (hp_same b c l k hs) [] (fun M ρ a w hv => ?_) rfl)
      have e1 := hv y my; rw [hy] at e1
      have e2 := hv z mz; rw [hz] at e2
      obtain ⟨wv, hf, hw⟩ := pr_case e1
      obtain ⟨q, rfl, hq⟩ := hp_case (pr_mk (ρ := ρ) (p := objP (.hp b l)) hw)
      exact ⟨_, (run_methVal ho Try.func40 rfl hf w (by kernel_rfl)).trans (by rw [cat]), rfl, fin M ρ (.agg [SV.b b, intsV l]) _ _ hq e2⟩
theorem next_call {sz m : Nat} {o : Oper} {nm : Nat} {v : Operand → SV} {y z : Operand} {tys : Array TypeId} {ob : Ob} {ac : Act} (ho : o.op = .call { callee := .invoke y "barograph/lin.next", args := #[z], argTypes := tys }) (hy : v y = objV ob) (hz : v z = actS ac) (hs : osize ob ≤ 1048575) : OpOK ⟨Try.prog, sz, m, G0⟩ o nm v [] (fun r wr => r = SV.tup [objV (onext ob ac).1, SV.i (onext ob ac).2] ∧ wr = []) := by
  have my : y ∈ o.op.operands := by rw [ho]; simp [Op.operands, Call.operands]
  have mz : z ∈ o.op.operands := by rw [ho]; simp [Op.operands, Call.operands]
  have fin : ∀ (M : Imm) (ρ : Names) (q : SV) (qv zv : Value), VR M ρ (ren [] q) qv → VR M ρ (actS ac) zv → ∀ (i : Nat) (s : SV), ([q, actS ac] : List SV)[i]? = some s → ∃ u, (#[qv, zv] : Array Value)[i]? = some u ∧ VR M ρ (ren [] s) u := by
    intro M ρ q qv zv h1 h2 i s hs
    match i, hs with
    | 0, hs => cases hs; exact ⟨_, rfl, h1⟩
    | 1, hs => cases hs; exact ⟨_, rfl, h2⟩
    | n + 2, hs => simp at hs
  have cat : ∀ (a : Go.Act) (qv : Value), (#[qv] ++ (#[z] : Array Operand).map a.eval : Array Value) = #[qv, a.eval z] := by intro a qv; simp
  cases ob with
  | reg n =>
    refine out_one (fun π => rfl) (enter_ok (C := ⟨Try.prog, sz, m, G0⟩) (reg_next n ac) [] (fun M ρ a w hv => ?_) rfl)
    have e1 := hv y my; rw [hy] at e1
    have e2 := hv z mz; rw [hz] at e2
    have hf := pr_case e1
    exact ⟨_, (run_invoke ho Try.func35 rfl hf w (by kernel_rfl)).trans (by rw [cat]), rfl, fin M ρ (SV.i n) _ _ (.d _ _ (.val _ rfl)) e2⟩
  | cnt n =>
    refine out_one (fun π => rfl) (enter_ok (C := ⟨Try.prog, sz, m, G0⟩) (cnt_next n ac) [] (fun M ρ a w hv => ?_) rfl)
    have e1 := hv y my; rw [hy] at e1
    have e2 := hv z mz; rw [hz] at e2
    have hf := pr_case e1
    exact ⟨_, (run_invoke ho Try.func37 rfl hf w (by kernel_rfl)).trans (by rw [cat]), rfl, fin M ρ (SV.i n) _ _ (.d _ _ (.val _ rfl)) e2⟩
  | hp b l =>
    refine out_one (fun π => rfl) (enter_ok (C := ⟨Try.prog, sz, m, G0⟩) (hp_next b l hs ac) [] (fun M ρ a w hv => ?_) rfl)
    have e1 := hv y my; rw [hy] at e1
    have e2 := hv z mz; rw [hz] at e2
    obtain ⟨q, hf, hq⟩ := hp_case e1
    exact ⟨_, (run_invoke ho Try.func39 rfl hf w (by kernel_rfl)).trans (by rw [cat]), rfl, fin M ρ (.agg [SV.b b, intsV l]) _ _ hq e2⟩
end Go.Proofs.Ytdjphneoecebmaa.Nice
