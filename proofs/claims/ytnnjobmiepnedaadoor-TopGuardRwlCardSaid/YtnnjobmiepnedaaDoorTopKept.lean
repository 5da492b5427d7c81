/- kept: nothing is lost. -/
import Derived.Test.YtnnjobmiepnedaaDoorTopBase
namespace Go.Proofs.YtnnjobmiepnedaaDoor.Nice
open Go
set_option linter.unusedVariables false
set_option linter.unusedSimpArgs false
set_option maxRecDepth 100000
set_option maxHeartbeats 4000000

theorem one_play : played ⟨[], [[]], [[⟨0, []⟩]]⟩ [0] = ⟨[⟨0, 0, 0, false, 0, []⟩, ⟨0, 0, 0, true, 0, []⟩], [], 0⟩ := by rfl
theorem ok_one : (⟨[], [[]], [[⟨0, []⟩]]⟩ : Mach).ok := by
  refine ⟨by decide, by decide, by decide, fun k => ?_, fun k => ?_⟩
  · match k with
    | 0 => decide
    | k + 1 => exact Nat.zero_le _
  · match k with
    | 0 => decide
    | k + 1 => exact Nat.zero_le _
theorem count_step {l : List Ev} {k : Nat} (h : k < l.length) : l.take (k + 1) = l.take k ++ [l.getD k default] := by
  rw [List.take_add_one, List.getElem?_eq_getElem h, show l.getD k default = l[k] from by simp [List.getD, h]]; rfl

theorem cnt_step {k : Nat} {l : List Ev} {F : List Ev → Int} {g : Ev → Int} (hF : ∀ a e, F (a ++ [e]) = F a + g e) (h : k < l.length) : F (l.take (k + 1)) = F (l.take k) + g (l.getD k default) := by rw [count_step h, hF]
theorem end_step {l : List Ev} {k : Nat} (h : k < l.length) (hc : ∀ e, e ∈ l → 0 ≤ e.call) : endA (l.take (k + 1)) = endA (l.take k) + if (l.getD k default).call.tmod 3 = 1 ∧ (l.getD k default).fin = true then 1 else 0 := by
  rw [count_step h, endA_app, Int.tmod_eq_emod_of_nonneg (hc _ (ev_mem h))]; simp [endA]
theorem beg_step {l : List Ev} {k : Nat} (h : k < l.length) (hc : ∀ e, e ∈ l → 0 ≤ e.call) : begA (l.take (k + 1)) = begA (l.take k) + if (l.getD k default).call.tmod 3 = 1 ∧ (l.getD k default).fin = false then 1 else 0 := by
  rw [count_step h, begA_app, Int.tmod_eq_emod_of_nonneg (hc _ (ev_mem h))]; simp [begA]
theorem end_bound : ∀ l : List Ev, 0 ≤ endA l ∧ endA l ≤ l.length
  | [] => ⟨Int.le_refl _, Int.le_refl _⟩
  | e :: r => by have := end_bound r; simp only [endA, List.length_cons]; split <;> omega
theorem beg_bound : ∀ l : List Ev, 0 ≤ begA l ∧ begA l ≤ l.length
  | [] => ⟨Int.le_refl _, Int.le_refl _⟩
  | e :: r => by have := beg_bound r; simp only [begA, List.length_cons]; split <;> omega
def oneC : Nat → Nat → D := fun _ c => if c = 0 then .val (.int .i64 0) else .nils
theorem vec_imp1 {M : Imm} {k len : Nat} {f g : Nat → Nat → D} {v : Value} (h : DR M (.vec k len f) v) (e : ∀ i c u, i < len → c < k → DR M (f i c) u → DR M (g i c) u) : DR M (.vec k len g) v := by
  cases h with
  | vec0 => exact .vec0 _ _ _ _
  | vec _ _ _ b o cap cur T fz q hb hc hg hr => exact .vec _ _ _ b o cap cur T fz q hb hc hg fun i c hi hcc => e i c _ hi hcc (hr i c hi hcc)
theorem play_own (q : Mach) (hq : q.ok) (sc : List Int) (hsc : sc.length ≤ 9223372036854775807) (R : PRes) (hR : played q sc = R) : Spec Tryd.prog GV 20 [machS q, .sl 0 0 sc.length] [.rows 3 1 sc.length (intsF sc)] (fun r ho => r = SV.tup [evV R.out, intsV R.ws, SV.i R.e] ∧ ho = [none]) :=
  Spec.give (fun M ρ ρ' v h => VR.fwd (π := []) (n := 0) (fun i hi => absurd hi (Nat.not_lt_zero _)) h rfl) (fun M ρ ρ' v h => VR.fwd (π := []) (n := 0) (fun i hi => absurd hi (Nat.not_lt_zero _)) h rfl) rfl (play_any q hq sc hsc R hR)
theorem play_one : Spec Tryd.prog GV 20 [.agg [.d .nils, .d (.vec 1 1 fun _ _ => .nils), .d (.vec 1 1 fun _ _ => .vec 2 1 oneC)], .d (.vec 1 1 (intsF [0]))] [] (fun r ho => r = SV.tup [evV [⟨0, 0, 0, false, 0, []⟩, ⟨0, 0, 0, true, 0, []⟩], intsV [], SV.i 0] ∧ ho = []) := by
  refine Spec.args (play_any _ ok_one [0] (by decide) _ one_play) rfl fun M ρ i x hx => ?_
  match i, hx with
  | 0, hx =>
    cases hx
    refine ⟨_, rfl, fun u hu => ?_⟩
    obtain ⟨vs, rfl, hs, hr⟩ := agg_case hu
    refine .aggOf _ _ hs fun i s hi => ?_
    have nil : ∀ (k : Nat) (f : Nat → Nat → D) (u : Value), DR M .nils u → DR M (.vec k 0 f) u := by
      intro k f u h; cases h with | nils a => exact .vec0 _ _ _ _
    match i, hi with
    | 0, hi =>
      cases hi
      obtain ⟨u, e, r⟩ := hr 0 _ rfl
      cases r with | d _ _ r => exact ⟨u, e, .d _ _ (nil _ _ _ r)⟩
    | 1, hi =>
      cases hi
      obtain ⟨u, e, r⟩ := hr 1 _ rfl
      cases r with | d _ _ r =>
        refine ⟨u, e, .d _ _ (vec_imp1 r fun i c u hi hc hu => ?_)⟩
        obtain rfl : i = 0 := by have : i < 1 := hi; omega
        exact nil _ _ _ hu
    | 2, hi =>
      cases hi
      obtain ⟨u, e, r⟩ := hr 2 _ rfl
      cases r with | d _ _ r =>
        refine ⟨u, e, .d _ _ (vec_imp1 r fun i c u hi hc hu => ?_)⟩
        obtain rfl : i = 0 := by have : i < 1 := hi; omega
        refine vec_imp1 hu fun i c u hi hc hu => ?_
        obtain rfl : i = 0 := by have : i < 1 := hi; omega
        match c, hc with
        | 0, _ => exact hu
        | 1, _ => exact nil _ _ _ hu
    | n + 3, hi => simp at hi
  | 1, hx => cases hx; exact ⟨_, rfl, fun u hu => hu⟩
  | n + 2, hx => simp at hx

theorem kept_any (q : Mach) (hq : q.ok) (sc : List Int) (hl : sc.length ≤ 6000) (R : PRes) (hR : played q sc = R) (he : R.e = 0) (w0 : Int) (hw : R.ws = [w0, endA R.out]) (hqw : q.ws.length = 2) (hn : R.out.length ≤ 20000) (hca : ∀ e, e ∈ R.out → 0 ≤ e.call) (hd : begA R.out - endA R.out ≤ 1) (h0 : 0 ≤ endA R.out ∧ endA R.out ≤ 100000 ∧ 0 ≤ begA R.out ∧ begA R.out ≤ 100000) : Spec Tryd.prog GV 12 [machS q, intsV sc] [] (fun r ho => r = SV.b true ∧ ho = []) := by
  refine start 90 0 Tryd.func12 rfl rfl rfl rfl ?_
  refine r1 ?_
  refine s1 2 0 1 rfl rfl rfl rfl rfl rfl trivial ?_
  refine s1 4 8 2 rfl rfl rfl rfl rfl rfl trivial ?_
  refine e1 16 rfl ?_
  refine keep [1, 2] rfl ?_
  refine rd1 rfl ?_
  refine d1 16 16 1 rfl rfl rfl rfl rfl rfl (by first | trivial | omega) ?_
  refine d1 17 24 2 rfl rfl rfl rfl rfl rfl trivial ?_
  refine d1 18 32 3 rfl rfl rfl rfl rfl rfl ⟨trivial, (by show sc.length * 8 ≤ 140737488355328; omega), (by simp only [maxLen]; omega)⟩ ?_
  refine dc1 (play_own q hq sc (by omega) R hR) [32] [32] 19 40 4 rfl rfl rfl rfl rfl rfl rfl rfl Tryd.func20 rfl rfl rfl rfl ⟨rfl, trivial⟩ rfl rfl ?_
  refine d1 15 48 5 rfl rfl rfl rfl rfl rfl trivial ?_
  refine d1 20 56 6 rfl rfl rfl rfl rfl rfl trivial ?_
  refine d1 21 64 7 rfl rfl rfl rfl rfl rfl trivial ?_
  refine d1 22 72 8 rfl rfl rfl rfl rfl rfl trivial ?_
  refine d1 5 80 9 rfl rfl rfl rfl rfl rfl trivial ?_
  refine d1 6 88 10 rfl rfl rfl rfl rfl rfl trivial ?_
  refine d1 7 96 11 rfl rfl rfl rfl rfl rfl trivial ?_
  refine de1 104 rfl (by kernel_rfl) ?_
  refine keep [2, 5, 6, 7] rfl ?_
  refine cval 6 (intsV [w0, endA R.out]) rfl (by rw [hw]; rfl) ?_
  refine W_seq ?_
  refine r1 ?_
  refine s1 23 104 1 rfl rfl rfl rfl rfl rfl trivial ?_
  refine s1 24 112 2 rfl rfl rfl rfl rfl rfl (by first | trivial | omega) ?_
  refine s1 25 120 3 rfl rfl rfl rfl rfl rfl trivial ?_
  refine ask 25 rfl (fun hg2_25 => ?_) (fun hg2_25 => ?_)
  · skip
    try simp only [cs, ne_eq] at hg2_25
    exact absurd he (by first | exact hg2_25 | simpa using hg2_25)
  · skip
    try simp only [cs, ne_eq] at hg2_25
    refine g1 2 false 25 26 4 rfl rfl rfl rfl rfl ?_
    refine s1 26 128 4 rfl rfl rfl rfl rfl rfl trivial ?_
    refine g1 2 false 25 27 5 rfl rfl rfl rfl rfl ?_
    refine s1 27 136 5 rfl rfl rfl rfl rfl rfl (by first | trivial | omega) ?_
    refine g1 2 false 25 28 6 rfl rfl rfl rfl rfl ?_
    refine s1 28 144 6 rfl rfl rfl rfl rfl rfl trivial ?_
    refine g1 2 false 25 29 7 rfl rfl rfl rfl rfl ?_
    refine s1 29 152 7 rfl rfl rfl rfl rfl rfl (by first | trivial | omega) ?_
    refine g1 2 false 25 30 8 rfl rfl rfl rfl rfl ?_
    refine s1 30 160 8 rfl rfl rfl rfl rfl rfl (by first | trivial | omega) ?_
    refine g1 2 false 25 31 9 rfl rfl rfl rfl rfl ?_
    refine s1 31 168 9 rfl rfl rfl rfl rfl rfl (by first | trivial | omega) ?_
    refine s1 32 176 10 rfl rfl rfl rfl rfl rfl trivial ?_
    refine e1 184 rfl ?_
    refine keep [5, 6, 32] rfl ?_
    refine q1 rfl (fun hc2 => ?_) (fun hc2 => ?_)
    · skip
      first | (simp [hqw] at hc2; done) | (rw [hqw] at hc2; exact absurd hc2 (by decide))
    · skip
      try simp only [cs, ne_eq] at hc2
      refine W_skip ?_
      refine tn ?_
      refine r1 ?_
      refine s1 8 184 1 rfl rfl rfl rfl rfl rfl trivial ?_
      refine e1 192 rfl ?_
      refine keep [5, 6, 8] rfl ?_
      refine r1 ?_
      refine s1 9 192 1 rfl rfl rfl rfl rfl rfl trivial ?_
      refine e1 200 rfl ?_
      refine keep [5, 6, 8, 9] rfl ?_
      refine W_seq ?_
      refine r1 ?_
      refine s1 10 200 1 rfl rfl rfl rfl rfl rfl trivial ?_
      refine e1 208 rfl ?_
      refine keep [5, 6, 8, 9, 10] rfl ?_
      refine W_block ?_
      refine loop (α := Nat) 0 (fun k => [(5, evV R.out), (6, intsV [w0, endA R.out]), (8, SV.i (endA (R.out.take (k)))), (9, SV.i (begA (R.out.take (k)))), (10, SV.i (k))]) (fun k => []) (fun k => (k) ≤ R.out.length) (fun k => R.out.length - (k)) (((0) : Nat)) [] (fun _ => rfl) (show (0) ≤ R.out.length from (by omega)) rfl ⟨rfl, rfl, rfl, rfl, rfl, trivial⟩ trivial (fun k hx => ?_)
      show W _ _ _ ⟨tOf [(5, evV R.out), (6, intsV [w0, endA R.out]), (8, SV.i (endA (R.out.take k))), (9, SV.i (begA (R.out.take k))), (10, SV.i k)], hOf [], 0⟩
      have hx : k ≤ R.out.length := hx
      have hb1 := end_bound (R.out.take k)
      have hb2 := beg_bound (R.out.take k)
      have hb3 : (R.out.take k).length ≤ k := List.length_take_le _ _
      refine W_seq ?_
      refine r1 ?_
      refine s1 33 0 1 rfl rfl rfl rfl rfl rfl trivial ?_
      refine s1 34 8 2 rfl rfl rfl rfl rfl rfl trivial ?_
      refine s1 35 16 3 rfl rfl rfl rfl rfl rfl (by first | trivial | omega) ?_
      refine s1 36 24 4 rfl rfl rfl rfl rfl rfl (by first | trivial | omega) ?_
      refine e1 32 rfl ?_
      refine keep [5, 6, 8, 9, 10, 36] rfl ?_
      refine q1 rfl (fun hc7 => ?_) (fun hc7 => ?_)
      · skip
        try simp only [cs, ne_eq] at hc7
        refine W_skip ?_
        refine tn ?_
        refine W_seq ?_
        refine W_block ?_
        refine r1 ?_
        refine s1 39 32 1 rfl rfl rfl rfl rfl rfl trivial ?_
        refine s1 40 40 2 rfl rfl rfl rfl rfl rfl trivial ?_
        refine s1 41 48 3 rfl rfl rfl rfl rfl rfl (by first | trivial | omega) ?_
        refine s1 42 56 4 rfl rfl rfl rfl rfl rfl trivial ?_
        refine s1 43 64 5 rfl rfl rfl rfl rfl rfl (by first | trivial | omega) ?_
        refine s1 44 72 6 rfl rfl rfl rfl rfl rfl (by first | trivial | omega) ?_
        refine s1 45 80 7 rfl rfl rfl rfl rfl rfl (by first | trivial | omega) ?_
        refine e1 88 rfl ?_
        refine keep [5, 6, 8, 9, 10, 45] rfl ?_
        refine q1 rfl (fun hc9 => ?_) (fun hc9 => ?_)
        · skip
          try simp only [cs, ne_eq] at hc9
          simp only [Int.toNat_natCast] at hc9
          refine r1 ?_
          refine s1 46 88 1 rfl rfl rfl rfl rfl rfl trivial ?_
          refine s1 47 96 2 rfl rfl rfl rfl rfl rfl trivial ?_
          refine s1 48 104 3 rfl rfl rfl rfl rfl rfl (by first | trivial | omega) ?_
          refine s1 49 112 4 rfl rfl rfl rfl rfl rfl trivial ?_
          refine s1 50 120 5 rfl rfl rfl rfl rfl rfl (by first | trivial | omega) ?_
          refine e1 128 rfl ?_
          refine keep [5, 6, 8, 9, 10, 50] rfl ?_
          refine q1 rfl (fun hc10 => ?_) (fun hc10 => ?_)
          · skip
            try simp only [cs, ne_eq] at hc10
            simp only [Int.toNat_natCast] at hc10
            refine r0 ?_
            refine s1 51 128 1 rfl rfl rfl rfl rfl rfl trivial ?_
            refine sA 52 136 2 rfl rfl rfl rfl rfl rfl rfl rfl rfl (by unfold inRange; omega) ?_
            refine s1 8 144 3 rfl rfl rfl rfl rfl rfl trivial ?_
            refine e1 152 rfl ?_
            refine bn ?_
            refine tn ?_
            refine cval 8 (SV.i (endA (R.out.take (k + 1)))) rfl (by rw [end_step (by omega) hca, if_pos ⟨hc9, hc10⟩]) ?_
            refine cval 9 (SV.i (begA (R.out.take (k + 1)))) rfl (by rw [beg_step (by omega) hca, if_neg (by rintro ⟨h1, h2⟩; first | exact absurd h1 hc9 | exact absurd (h2.symm.trans hc10) (by decide) | exact absurd (hc10.symm.trans h2) (by decide))]; simp) ?_
            refine r0 ?_
            refine s1 37 152 1 rfl rfl rfl rfl rfl rfl trivial ?_
            refine sA 38 160 2 rfl rfl rfl rfl rfl rfl rfl rfl rfl (by unfold inRange; omega) ?_
            refine s1 10 168 3 rfl rfl rfl rfl rfl rfl trivial ?_
            refine e1 176 rfl ?_
            refine tn ?_
            exact again ((k + 1 : Nat)) [] (show (k + 1) ≤ R.out.length from (by omega)) (show R.out.length - (k + 1) < R.out.length - k from (by omega)) rfl ⟨rfl, rfl, rfl, rfl, rfl, trivial⟩ trivial
          · skip
            try simp only [cs, ne_eq] at hc10
            simp only [Int.toNat_natCast] at hc10
            refine r0 ?_
            refine s1 53 128 1 rfl rfl rfl rfl rfl rfl trivial ?_
            refine sA 54 136 2 rfl rfl rfl rfl rfl rfl rfl rfl rfl (by unfold inRange; omega) ?_
            refine s1 9 144 3 rfl rfl rfl rfl rfl rfl trivial ?_
            refine e1 152 rfl ?_
            refine bn ?_
            refine tn ?_
            refine cval 8 (SV.i (endA (R.out.take (k + 1)))) rfl (by rw [end_step (by omega) hca, if_neg (by rintro ⟨h1, h2⟩; first | exact absurd h1 hc9 | exact absurd (h2.symm.trans hc10) (by decide) | exact absurd (hc10.symm.trans h2) (by decide))]; simp) ?_
            refine cval 9 (SV.i (begA (R.out.take (k + 1)))) rfl (by rw [beg_step (by omega) hca, if_pos ⟨hc9, hc10⟩]) ?_
            refine r0 ?_
            refine s1 37 152 1 rfl rfl rfl rfl rfl rfl trivial ?_
            refine sA 38 160 2 rfl rfl rfl rfl rfl rfl rfl rfl rfl (by unfold inRange; omega) ?_
            refine s1 10 168 3 rfl rfl rfl rfl rfl rfl trivial ?_
            refine e1 176 rfl ?_
            refine tn ?_
            exact again ((k + 1 : Nat)) [] (show (k + 1) ≤ R.out.length from (by omega)) (show R.out.length - (k + 1) < R.out.length - k from (by omega)) rfl ⟨rfl, rfl, rfl, rfl, rfl, trivial⟩ trivial
        · skip
          try simp only [cs, ne_eq] at hc9
          simp only [Int.toNat_natCast] at hc9
          refine W_skip ?_
          refine bn ?_
          refine tn ?_
          refine cval 8 (SV.i (endA (R.out.take (k + 1)))) rfl (by rw [end_step (by omega) hca, if_neg (by rintro ⟨h1, h2⟩; first | exact absurd h1 hc9 | exact absurd (h2.symm.trans hc10) (by decide) | exact absurd (hc10.symm.trans h2) (by decide))]; simp) ?_
          refine cval 9 (SV.i (begA (R.out.take (k + 1)))) rfl (by rw [beg_step (by omega) hca, if_neg (by rintro ⟨h1, h2⟩; first | exact absurd h1 hc9 | exact absurd (h2.symm.trans hc10) (by decide) | exact absurd (hc10.symm.trans h2) (by decide))]; simp) ?_
          refine r0 ?_
          refine s1 37 88 1 rfl rfl rfl rfl rfl rfl trivial ?_
          refine sA 38 96 2 rfl rfl rfl rfl rfl rfl rfl rfl rfl (by unfold inRange; omega) ?_
          refine s1 10 104 3 rfl rfl rfl rfl rfl rfl trivial ?_
          refine e1 112 rfl ?_
          refine tn ?_
          exact again ((k + 1 : Nat)) [] (show (k + 1) ≤ R.out.length from (by omega)) (show R.out.length - (k + 1) < R.out.length - k from (by omega)) rfl ⟨rfl, rfl, rfl, rfl, rfl, trivial⟩ trivial
      · skip
        try simp only [cs, ne_eq] at hc7
        obtain rfl : k = R.out.length := by omega
        refine W_exit ?_
        refine tx ?_
        refine tx ?_
        refine bx ?_
        refine tn ?_
        refine cval 8 (SV.i (endA R.out)) rfl (by rw [List.take_length]) ?_
        refine cval 9 (SV.i (begA R.out)) rfl (by rw [List.take_length]) ?_
        refine r1 ?_
        refine s1 55 32 1 rfl rfl rfl rfl rfl rfl trivial ?_
        refine s1 56 40 2 rfl rfl rfl rfl rfl rfl trivial ?_
        refine s1 57 48 3 rfl rfl rfl rfl rfl rfl (by first | trivial | omega) ?_
        refine sA 58 56 4 rfl rfl rfl rfl rfl rfl rfl rfl rfl (by unfold inRange; omega) ?_
        refine val 58 (SV.i 1) rfl rfl ?_
        refine s1 59 64 5 rfl rfl rfl rfl rfl rfl (by first | trivial | omega) ?_
        refine s1 60 72 6 rfl rfl rfl rfl rfl rfl (by first | trivial | omega) ?_
        refine val 60 (SV.i (endA R.out)) rfl rfl ?_
        refine s1 11 80 7 rfl rfl rfl rfl rfl rfl trivial ?_
        refine e1 88 rfl ?_
        refine keep [8, 9, 11] rfl ?_
        refine r1 ?_
        refine sLit 1 (fun _ _ => .nils) 62 88 1 rfl rfl rfl rfl rfl rfl rfl rfl rfl (by intro i c hi hc; obtain rfl : i = 0 := (by omega); obtain rfl : c = 0 := (by omega); rfl) ?_
        refine s1 63 96 2 rfl rfl rfl rfl rfl rfl trivial ?_
        refine sLit 2 (oneC) 64 104 3 rfl rfl rfl rfl rfl rfl rfl rfl rfl (by intro i c hi hc; obtain rfl : i = 0 := (by omega); rcases (show c = 0 ∨ c = 1 by omega) with rfl | rfl <;> rfl) ?_
        refine sLit 1 (fun _ _ => .vec 2 1 oneC) 65 112 4 rfl rfl rfl rfl rfl rfl rfl rfl rfl (by intro i c hi hc; obtain rfl : i = 0 := (by omega); obtain rfl : c = 0 := (by omega); rfl) ?_
        refine s1 66 120 5 rfl rfl rfl rfl rfl rfl trivial ?_
        refine sLit 1 (intsF [0]) 67 128 6 rfl rfl rfl rfl rfl rfl rfl rfl rfl (by intro i c hi hc; obtain rfl : i = 0 := (by omega); obtain rfl : c = 0 := (by omega); rfl) ?_
        refine c1 (play_one) [] [] 68 136 7 rfl rfl rfl rfl rfl rfl rfl rfl Tryd.func20 rfl rfl rfl rfl trivial rfl rfl ?_
        refine s1 61 144 8 rfl rfl rfl rfl rfl rfl trivial ?_
        refine s1 69 152 9 rfl rfl rfl rfl rfl rfl trivial ?_
        refine s1 70 160 10 rfl rfl rfl rfl rfl rfl trivial ?_
        refine s1 71 168 11 rfl rfl rfl rfl rfl rfl trivial ?_
        refine s1 12 176 12 rfl rfl rfl rfl rfl rfl trivial ?_
        refine s1 13 184 13 rfl rfl rfl rfl rfl rfl trivial ?_
        refine s1 14 192 14 rfl rfl rfl rfl rfl rfl trivial ?_
        refine e1 200 rfl ?_
        refine keep [8, 9, 11, 12, 14] rfl ?_
        refine r1 ?_
        refine s1 72 200 1 rfl rfl rfl rfl rfl rfl trivial ?_
        refine s1 73 208 2 rfl rfl rfl rfl rfl rfl (by first | trivial | omega) ?_
        refine s1 74 216 3 rfl rfl rfl rfl rfl rfl trivial ?_
        refine ask 74 rfl (fun hg15_74 => ?_) (fun hg15_74 => ?_)
        · skip
          try simp only [cs, ne_eq] at hg15_74
          refine g1 2 true 74 75 4 rfl rfl rfl rfl rfl ?_
          refine s1 75 224 4 rfl rfl rfl rfl rfl rfl trivial ?_
          refine g1 2 true 74 76 5 rfl rfl rfl rfl rfl ?_
          refine s1 76 232 5 rfl rfl rfl rfl rfl rfl (by first | trivial | omega) ?_
          refine g1 2 true 74 77 6 rfl rfl rfl rfl rfl ?_
          refine s1 77 240 6 rfl rfl rfl rfl rfl rfl (by first | trivial | omega) ?_
          refine s1 78 248 7 rfl rfl rfl rfl rfl rfl trivial ?_
          refine s1 79 256 8 rfl rfl rfl rfl rfl rfl trivial ?_
          refine ask 79 rfl (fun hg15_79 => ?_) (fun hg15_79 => ?_)
          · skip
            try simp only [cs, ne_eq] at hg15_79
            refine g1 7 true 79 80 9 rfl rfl rfl rfl rfl ?_
            refine s1 80 264 9 rfl rfl rfl rfl rfl rfl trivial ?_
            refine g1 7 true 79 81 10 rfl rfl rfl rfl rfl ?_
            refine s1 81 272 10 rfl rfl rfl rfl rfl rfl trivial ?_
            refine g1 7 true 79 82 11 rfl rfl rfl rfl rfl ?_
            refine s1 82 280 11 rfl rfl rfl rfl rfl rfl (by first | trivial | omega) ?_
            refine s1 83 288 12 rfl rfl rfl rfl rfl rfl trivial ?_
            refine s1 84 296 13 rfl rfl rfl rfl rfl rfl trivial ?_
            refine ask 84 rfl (fun hg15_84 => ?_) (fun hg15_84 => ?_)
            · skip
              try simp only [cs, ne_eq] at hg15_84
              refine g1 12 true 84 85 14 rfl rfl rfl rfl rfl ?_
              refine s1 85 304 14 rfl rfl rfl rfl rfl rfl trivial ?_
              refine g1 12 true 84 86 15 rfl rfl rfl rfl rfl ?_
              refine s1 86 312 15 rfl rfl rfl rfl rfl rfl trivial ?_
              refine g1 12 true 84 87 16 rfl rfl rfl rfl rfl ?_
              refine sA 87 320 16 rfl rfl rfl rfl rfl rfl rfl rfl rfl (by unfold inRange; omega) ?_
              refine g1 12 true 84 88 17 rfl rfl rfl rfl rfl ?_
              refine s1 88 328 17 rfl rfl rfl rfl rfl rfl (by first | trivial | omega) ?_
              refine s1 89 336 18 rfl rfl rfl rfl rfl rfl trivial ?_
              refine val 89 (SV.b true) rfl (by show SV.b _ = SV.b true; refine congrArg SV.b ?_; simp; omega) ?_
              refine s1 4 344 19 rfl rfl rfl rfl rfl rfl trivial ?_
              refine e1 352 rfl ?_
              refine keep [4] rfl ?_
              refine W_ret ?_
              exact out1 4 (SV.b true) (π := []) (hout := []) Tryd.results12 rfl rfl rfl rfl trivial ⟨rfl, rfl⟩
            · skip
              try simp only [cs, ne_eq] at hg15_84
              exact absurd hg15_84 (by first | decide | omega | simp)
          · skip
            try simp only [cs, ne_eq] at hg15_79
            exact absurd hg15_79 (by first | decide | omega | simp)
        · skip
          try simp only [cs, ne_eq] at hg15_74
          exact absurd hg15_74 (by first | decide | omega | simp)

end Go.Proofs.YtnnjobmiepnedaaDoor.Nice
