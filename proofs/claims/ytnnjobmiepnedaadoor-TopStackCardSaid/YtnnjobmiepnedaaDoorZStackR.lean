/- What TopStack asks of a run. -/
import Derived.Test.YtnnjobmiepnedaaDoorZMSt
import Derived.Test.YtnnjobmiepnedaaDoorZSure
namespace Go.Proofs.YtnnjobmiepnedaaDoor.Nice
open Go
set_option linter.unusedVariables false
set_option linter.unusedSimpArgs false
set_option maxRecDepth 100000
set_option maxHeartbeats 4000000

theorem Spec.stillT {P : Program} {G : Nat → SV} {f : FuncId} {args : List SV} {ty k L : Nat} {F : Nat → Nat → D} {e : Int} (h : Spec P G f args [] (fun r ho => r = SV.tup [.sl 0 0 L, SV.i e] ∧ ho = [some (.rows ty k L F)])) : Spec P G f args [] (fun r ho => r = SV.tup [.d (.vec k L F), SV.i e] ∧ ho = []) := by
  intro M F' ρ vs w hG hH hsz hargs hfr
  refine (h M F' ρ vs w hG hH hsz hargs hfr).mono ?_
  rintro e' w' ⟨M', ρ', r, ho, u, rfl, h1, h2, h3, h4, h5, h6, rfl, rfl⟩
  obtain ⟨M2, k1, k2, k3⟩ := freeze_all h4 (n := 0) (len := L) rfl (Nat.le_refl _)
  refine ⟨M2, ρ', _, [], u, rfl, Imm.le_trans h1 k1, h2, ?_, ?_, rfl, h6, rfl, rfl⟩
  · cases h3 with
    | tup xs vs g hs hg hr =>
      refine .tupOf _ _ hs fun i s hi => ?_
      match i, hi with
      | 0, hi => cases hi; exact ⟨_, hg 0 (by show 0 < 2; decide), k3 _ (hr 0 _ rfl)⟩
      | 1, hi => cases hi; exact ⟨_, hg 1 (by show 1 < 2; decide), (hr 1 _ rfl).mono k1 (Names.le_refl _)⟩
      | n + 2, hi => simp at hi
  have e : upd (hOf [some (.rows ty k L F)]) 0 none = hOf [] := by
    funext n; rw [upd_eq]
    match n with
    | 0 => rfl
    | n + 1 => rfl
  rw [e] at k2; exact k2
theorem call_snocN (l : List CallD) (k0 : Int) (n : Nat) (hn : n = l.length) (i k : Nat) (hi : i < n + 1) (hk : k < 2) (M : Imm) (v : Value) (h : DR M (catR (callF l) n (litR 2 [.val (.int .i64 k0), .nils]) i k) v) : DR M (callF (l ++ [⟨k0, []⟩]) i k) v := by
  subst hn
  unfold catR at h
  by_cases hlt : i < l.length
  · rw [if_pos hlt] at h
    unfold callF at h ⊢
    rw [List.getD_eq_getElem?_getD, List.getElem?_append_left hlt, ← List.getD_eq_getElem?_getD]; exact h
  · obtain rfl : i = l.length := by omega
    rw [if_neg hlt, Nat.sub_self] at h
    unfold callF
    have : (l ++ [(⟨k0, []⟩ : CallD)]).getD l.length default = ⟨k0, []⟩ := by simp [List.getD]
    rw [this]
    match k, hk with
    | 0, _ => exact h
    | 1, _ => have h : DR M .nils v := h; cases h with | nils a => exact .vec0 _ _ _ _

theorem ccelln {C : Ctx} {K : St → Prop} {t : Nat → SV} {h : Heap} {nx : Nat} (n j : Nat) (s' : SV) {ty k : Nat} {xs : List SV} {s : SV} (hn : h n = some (.cells ty k xs)) (hj : xs[j]? = some s) (hw : ∀ M ρ v, VR M ρ s v → VR M ρ s' v)
    (kk : Wn C K ⟨t, upd h n (some (.cells ty k (xs.set j s'))), nx⟩) : Wn C K ⟨t, h, nx⟩ := by
  intro M F pin ρ a w hsr
  refine kk M F pin ρ a w ⟨⟨hsr.tm, hsr.sz, hsr.df, hsr.hr.swap n hn (b' := .cells ty k (xs.set j s')) (fun x obj hb => ?_) (fun h => by cases h), hsr.pn, hsr.pm, hsr.gl⟩, hsr.fr⟩
  cases obj with
  | cells cur T fz =>
    obtain ⟨h1, h2, h3, h4, h5, h6⟩ := hb
    refine ⟨h1, h2, h3, h4, by rw [List.length_set]; exact h5, fun i q hq => ?_⟩
    rw [List.getElem?_set] at hq
    split at hq
    · next e =>
      split at hq
      · cases hq; subst e
        obtain ⟨v, hv, hr⟩ := h6 j s hj
        exact ⟨v, hv, hw _ _ _ hr⟩
      · cases hq
    · exact h6 i q hq
  | _ => exact hb.elim
def boolsF (l : List Bool) : Nat → Nat → D := fun i _ => .val (.bool (l.getD i false))
def boolsV (l : List Bool) : SV := .d (.vec 1 l.length (boolsF l))
def cS (ks : List Bool) (i : Nat) : CallD := if ks.getD i false = true then ⟨1, []⟩ else ⟨0, [100 + (i : Int)]⟩
theorem cS_yes {ks : List Bool} {i : Nat} (h : ks.getD i false = true) : cS ks i = ⟨1, []⟩ := if_pos h
theorem cS_no {ks : List Bool} {i : Nat} (h : ks.getD i false = false) : cS ks i = ⟨0, [100 + (i : Int)]⟩ := if_neg (by rw [h]; decide)
theorem out_no {ks : List Bool} {i : Nat} (h : (ks.length : Int) ≤ i) : ks.getD i false = false := by rw [List.getD_eq_getElem?_getD, List.getElem?_eq_none (by omega)]; rfl
theorem cS_ok (ks : List Bool) (i : Nat) : okS (cS ks i) := by
  unfold cS; split
  · exact .inr ⟨rfl, rfl⟩
  · exact .inl ⟨rfl, _, by omega, rfl⟩
def sQ (ks : List Bool) : Mach := sq (cS ks)
theorem sq_ok (c : Nat → CallD) : (sq c).ok := by
  refine ⟨by show (18 : Nat) ≤ _; decide, by show (2 : Nat) ≤ _; decide, by show (3 : Nat) ≤ _; decide, fun k => ?_, fun k => ?_⟩
  · show ([pushL, popL].getD k []).length ≤ _
    match k with
    | 0 | 1 => decide
    | k + 2 => exact Nat.zero_le _
  · show (([[c 0, c 3, c 6], [c 1, c 4, c 7], [c 2, c 5]] : List (List CallD)).getD k []).length ≤ _
    match k with
    | 0 | 1 => show (3 : Nat) ≤ _; decide
    | 2 => show (2 : Nat) ≤ _; decide
    | k + 3 => exact Nat.zero_le _
theorem sq_20 (c : Nat → CallD) (j : Int) (h : 0 ≤ j) : ((sq c).ts.getD j.toNat []).length ≤ 20 := by
  show (([[c 0, c 3, c 6], [c 1, c 4, c 7], [c 2, c 5]] : List (List CallD)).getD j.toNat []).length ≤ 20
  match j.toNat with
  | 0 | 1 => show (3 : Nat) ≤ _; decide
  | 2 => show (2 : Nat) ≤ _; decide
  | k + 3 => exact Nat.zero_le _
theorem sq_may {c : Nat → CallD} (hc : ∀ i, okS (c i)) : machB (sq c) = true := by
  have hb : ∀ i, badB 2 (c i) = false := by
    intro i
    unfold badB
    rcases hc i with ⟨h1, v, _, h2⟩ | ⟨h1, h2⟩
    · rw [h1, h2]; rfl
    · rw [h1, h2]; rfl
  unfold machB
  rw [Bool.and_eq_true, Bool.and_eq_true]
  refine ⟨rfl, ?_, ?_⟩
  · show [pushL, popL].all mayB = true
    decide +kernel
  · show ([[c 0, c 3, c 6], [c 1, c 4, c 7], [c 2, c 5]] : List (List CallD)).all (thrB 2) = true
    simp [thrB, hb]
structure StkR (ks : List Bool) (R : PRes) : Prop where
  e : R.e = 0
  ev : ∀ x, x ∈ R.out → 0 ≤ x.th ∧ x.th < 3 ∧ 0 ≤ x.call ∧ x.call < ((sQ ks).ts.getD x.th.toNat []).length ∧ 0 ≤ x.st ∧ x.st ≤ 6000
  ok : ∀ x, x ∈ R.out → x.fin = true → (putS (callAt (sQ ks) x.th.toNat x.call) x.told true).2.2 = true
  yes : Lin.FF (hist (sQ ks) putS (opsTo R R.out.length)) 0 (.hp true []) = true
  may : Lin.mayB 4 (hist (sQ ks) putS (opsTo R R.out.length)) = true
  len : (hist (sQ ks) putS (opsTo R R.out.length)).length ≤ 9
theorem sQ_in {ks : List Bool} {th n : Int} (h0 : 0 ≤ th) (h3 : th < 3) (hn0 : 0 ≤ n) (hn : n < ((sQ ks).ts.getD th.toNat []).length) : okS (callAt (sQ ks) th.toNat n) := by
  have hn : n < (((sq (cS ks)).ts.getD th.toNat []).length : Int) := hn
  rw [sq_len _ (by omega)] at hn
  unfold sQ; rw [sq_call _ (by omega) hn0 hn]; exact cS_ok _ _
theorem sQ_args {ks : List Bool} {th n : Int} (h0 : 0 ≤ th) (h3 : th < 3) (hn0 : 0 ≤ n) (hn : n < ((sQ ks).ts.getD th.toNat []).length) : (callAt (sQ ks) th.toNat n).code = 0 → (callAt (sQ ks) th.toNat n).args.length = 1 := by
  intro hc
  rcases sQ_in h0 h3 hn0 hn with ⟨_, v, _, h⟩ | ⟨h, _⟩
  · rw [h]; rfl
  · omega
theorem stack_run (ks : List Bool) (l : List Int) (R : PRes) (hR : played (sQ ks) (schedL l 3 800) = R) : StkR ks R := by
  have hsl := sched_len l 3 800
  obtain ⟨ord, h⟩ := played_lin (stackA (cS ks) (cS_ok ks)) (sq_may (cS_ok ks)) (schedL l 3 800) (by omega) (fun v hv => by have := sched_rng (n := 3) (by decide) 800 v hv; omega)
  have e : played (stackA (cS ks) (cS_ok ks)).q (schedL l 3 800) = R := hR
  rw [e] at h
  obtain ⟨y1, y2⟩ := stack_yes (cS_ok ks) (by omega) h
  have et : opsTo R R.out.length = opsOf R.out := by unfold opsTo; rw [List.take_length]
  refine ⟨h.e, fun x hx => ?_, fun x hx hf => ?_, by rw [et]; exact y1, by rw [et]; exact y2, by rw [et]; unfold hist; rw [List.length_map]; exact Nat.le_trans h.ct (by show 3 + 3 + 2 ≤ 9; decide)⟩
  · obtain ⟨g1, g2, g3, g4, g5, g6⟩ := h.ev x hx
    exact ⟨g1, g2, g3, g4, g5, by omega⟩
  · obtain ⟨f, hf'⟩ := h.et x hx hf
    obtain ⟨g1, g2, g3, g4, _⟩ := h.ev x hx
    have hf' : sTl (callAt (sQ ks) x.th.toNat x.call) f x.told := hf'
    unfold putS
    rcases sQ_in (ks := ks) g1 g2 g3 g4 with ⟨h1, _⟩ | ⟨h1, _⟩
    · rw [if_pos h1, hf'.1 h1]; rfl
    · rw [if_neg (by omega), if_neg (by decide), hf'.2 h1]; rfl
theorem putS_p0 {c : CallD} {told : List Int} {fin : Bool} (h : c.code = 0) (hf : fin = false) : putS c told fin = (true, c.args.getD 0 0, true) := by unfold putS; rw [if_pos h, hf]; rfl
theorem putS_p1 {c : CallD} {told : List Int} {fin : Bool} (h : c.code = 0) (hf : fin = true) (h2 : (told.length : Int) = 1) : putS c told fin = (true, c.args.getD 0 0, decide (told.getD 0 0 = 1)) := by unfold putS; rw [if_pos h, hf]; simp; omega
theorem putS_p2 {c : CallD} {told : List Int} {fin : Bool} (h : c.code = 0) (hf : fin = true) (h2 : ¬ (told.length : Int) = 1) : putS c told fin = (true, c.args.getD 0 0, false) := by unfold putS; rw [if_pos h, hf]; simp; omega
theorem putS_no {c : CallD} {told : List Int} {fin : Bool} (h0 : ¬ c.code = 0) (h : fin = false) : putS c told fin = (false, -1, true) := by unfold putS; rw [if_neg h0, if_pos h]
theorem putS_bad {c : CallD} {told : List Int} {fin : Bool} (h0 : ¬ c.code = 0) (h : fin = true) (h2 : ¬ (told.length : Int) = 1) : putS c told fin = (false, 0, false) := by unfold putS; rw [if_neg h0, if_neg (by rw [h]; decide), if_neg (by omega)]
theorem putS_yes {c : CallD} {told : List Int} {fin : Bool} (h0 : ¬ c.code = 0) (h : fin = true) (h2 : (told.length : Int) = 1) : putS c told fin = (false, told.getD 0 0, true) := by unfold putS; rw [if_neg h0, if_neg (by rw [h]; decide), if_pos (by omega)]

theorem putS_any (c : CallD) (ha : c.code = 0 → c.args.length = 1) (told : List Int) (fin : Bool) (ht : told.length ≤ 200) : Spec Tryd.prog GV 25 [callS c, intsV told, SV.b fin] [] (fun r ho => r = SV.tup [SV.b (putS c told fin).1, SV.i (putS c told fin).2.1, SV.b (putS c told fin).2.2] ∧ ho = []) := by
  refine start 37 0 Tryd.func25 rfl rfl rfl rfl ?_
  refine r1 ?_
  refine s1 3 0 1 rfl rfl rfl rfl rfl rfl trivial ?_
  refine s1 6 8 2 rfl rfl rfl rfl rfl rfl trivial ?_
  refine s1 7 16 3 rfl rfl rfl rfl rfl rfl trivial ?_
  refine s1 8 24 4 rfl rfl rfl rfl rfl rfl trivial ?_
  refine e1 32 rfl ?_
  refine keep [1, 2, 3] rfl ?_
  refine W_seq ?_
  refine r1 ?_
  refine s1 9 32 1 rfl rfl rfl rfl rfl rfl trivial ?_
  refine s1 10 40 2 rfl rfl rfl rfl rfl rfl (by first | trivial | omega) ?_
  refine s1 11 48 3 rfl rfl rfl rfl rfl rfl (by first | trivial | omega) ?_
  refine e1 56 rfl ?_
  refine keep [1, 2, 3, 11] rfl ?_
  refine q1 rfl (fun hc1 => ?_) (fun hc1 => ?_)
  · skip
    try simp only [cs, ne_eq] at hc1
    refine rd1 rfl ?_
    refine d1 12 56 1 rfl rfl rfl rfl rfl rfl trivial ?_
    refine d1 13 64 2 rfl rfl rfl rfl rfl rfl (by first | trivial | omega) ?_
    refine d1 14 72 3 rfl rfl rfl rfl rfl rfl (by refine ⟨Int.le_refl _, ?_⟩; have := ha hc1; show (0 : Int) < ((c.args.length : Nat) : Int); omega) ?_
    refine d1 15 80 4 rfl rfl rfl rfl rfl rfl (by first | trivial | omega) ?_
    refine d1 16 88 5 rfl rfl rfl rfl rfl rfl trivial ?_
    refine d1 17 96 6 rfl rfl rfl rfl rfl rfl trivial ?_
    refine d1 18 104 7 rfl rfl rfl rfl rfl rfl trivial ?_
    refine ask 18 rfl (fun hg2_18 => ?_) (fun hg2_18 => ?_)
    · skip
      try simp only [cs, ne_eq] at hg2_18
      refine g0 6 false 18 19 8 rfl rfl rfl rfl rfl rfl ?_
      refine g0 6 false 18 20 9 rfl rfl rfl rfl rfl rfl ?_
      refine g0 6 false 18 21 10 rfl rfl rfl rfl rfl rfl ?_
      refine g0 6 false 18 22 11 rfl rfl rfl rfl rfl rfl ?_
      refine gz 10 true 22 23 12 rfl rfl rfl rfl rfl rfl ?_
      refine gz 10 true 22 24 13 rfl rfl rfl rfl rfl rfl ?_
      refine gz 10 true 22 25 14 rfl rfl rfl rfl rfl rfl ?_
      refine gz 10 true 22 26 15 rfl rfl rfl rfl rfl rfl ?_
      refine g0 6 false 18 27 16 rfl rfl rfl rfl rfl rfl ?_
      refine d1 28 184 17 rfl rfl rfl rfl rfl rfl trivial ?_
      refine d1 6 192 18 rfl rfl rfl rfl rfl rfl trivial ?_
      refine d1 7 200 19 rfl rfl rfl rfl rfl rfl trivial ?_
      refine d1 8 208 20 rfl rfl rfl rfl rfl rfl trivial ?_
      refine de1 216 rfl (by kernel_rfl) ?_
      refine keep [6, 7, 8] rfl ?_
      refine W_ret ?_
      refine tr ?_
      exact out3 6 7 8 (SV.b (putS c told fin).1) (SV.i (putS c told fin).2.1) (SV.b (putS c told fin).2.2) (π := []) (hout := []) Tryd.results25 rfl rfl rfl (by rw [putS_p0 hc1 hg2_18]; rfl) (by rw [putS_p0 hc1 hg2_18]; rfl) (by rw [putS_p0 hc1 hg2_18]; rfl) rfl rfl trivial ⟨rfl, rfl⟩
    try simp only [cs, ne_eq] at hg2_18
    refine g1 6 false 18 19 8 rfl rfl rfl rfl rfl ?_
    refine d1 19 112 8 rfl rfl rfl rfl rfl rfl trivial ?_
    refine g1 6 false 18 20 9 rfl rfl rfl rfl rfl ?_
    refine d1 20 120 9 rfl rfl rfl rfl rfl rfl (by first | trivial | omega) ?_
    refine g1 6 false 18 21 10 rfl rfl rfl rfl rfl ?_
    refine d1 21 128 10 rfl rfl rfl rfl rfl rfl (by first | trivial | omega) ?_
    refine g1 6 false 18 22 11 rfl rfl rfl rfl rfl ?_
    refine d1 22 136 11 rfl rfl rfl rfl rfl rfl trivial ?_
    refine ask 22 rfl (fun hg2_22 => ?_) (fun hg2_22 => ?_)
    · skip
      try simp only [cs, ne_eq] at hg2_22
      refine g1 10 true 22 23 12 rfl rfl rfl rfl rfl ?_
      refine d1 23 144 12 rfl rfl rfl rfl rfl rfl trivial ?_
      refine g1 10 true 22 24 13 rfl rfl rfl rfl rfl ?_
      refine d1 24 152 13 rfl rfl rfl rfl rfl rfl (by first | trivial | omega) ?_
      refine g1 10 true 22 25 14 rfl rfl rfl rfl rfl ?_
      refine d1 25 160 14 rfl rfl rfl rfl rfl rfl (by first | trivial | omega) ?_
      refine g1 10 true 22 26 15 rfl rfl rfl rfl rfl ?_
      refine d1 26 168 15 rfl rfl rfl rfl rfl rfl (by first | trivial | omega) ?_
      refine g1 6 false 18 27 16 rfl rfl rfl rfl rfl ?_
      refine d1 27 176 16 rfl rfl rfl rfl rfl rfl trivial ?_
      refine d1 28 184 17 rfl rfl rfl rfl rfl rfl trivial ?_
      refine d1 6 192 18 rfl rfl rfl rfl rfl rfl trivial ?_
      refine d1 7 200 19 rfl rfl rfl rfl rfl rfl trivial ?_
      refine d1 8 208 20 rfl rfl rfl rfl rfl rfl trivial ?_
      refine de1 216 rfl (by kernel_rfl) ?_
      refine keep [6, 7, 8] rfl ?_
      refine W_ret ?_
      refine tr ?_
      exact out3 6 7 8 (SV.b (putS c told fin).1) (SV.i (putS c told fin).2.1) (SV.b (putS c told fin).2.2) (π := []) (hout := []) Tryd.results25 rfl rfl rfl (by rw [putS_p1 hc1 hg2_18 hg2_22]; rfl) (by rw [putS_p1 hc1 hg2_18 hg2_22]; rfl) (by rw [putS_p1 hc1 hg2_18 hg2_22]; rfl) rfl rfl trivial ⟨rfl, rfl⟩
    try simp only [cs, ne_eq] at hg2_22
    refine g0 10 true 22 23 12 rfl rfl rfl rfl rfl rfl ?_
    refine g0 10 true 22 24 13 rfl rfl rfl rfl rfl rfl ?_
    refine g0 10 true 22 25 14 rfl rfl rfl rfl rfl rfl ?_
    refine g0 10 true 22 26 15 rfl rfl rfl rfl rfl rfl ?_
    refine g1 6 false 18 27 16 rfl rfl rfl rfl rfl ?_
    refine d1 27 176 16 rfl rfl rfl rfl rfl rfl trivial ?_
    refine d1 28 184 17 rfl rfl rfl rfl rfl rfl trivial ?_
    refine d1 6 192 18 rfl rfl rfl rfl rfl rfl trivial ?_
    refine d1 7 200 19 rfl rfl rfl rfl rfl rfl trivial ?_
    refine d1 8 208 20 rfl rfl rfl rfl rfl rfl trivial ?_
    refine de1 216 rfl (by kernel_rfl) ?_
    refine keep [6, 7, 8] rfl ?_
    refine W_ret ?_
    refine tr ?_
    exact out3 6 7 8 (SV.b (putS c told fin).1) (SV.i (putS c told fin).2.1) (SV.b (putS c told fin).2.2) (π := []) (hout := []) Tryd.results25 rfl rfl rfl (by rw [putS_p2 hc1 hg2_18 hg2_22]; rfl) (by rw [putS_p2 hc1 hg2_18 hg2_22]; rfl) (by rw [putS_p2 hc1 hg2_18 hg2_22]; rfl) rfl rfl trivial ⟨rfl, rfl⟩
  try simp only [cs, ne_eq] at hc1
  refine W_skip ?_
  refine tn ?_
  refine W_seq ?_
  refine r1 ?_
  refine s1 29 56 1 rfl rfl rfl rfl rfl rfl trivial ?_
  refine s1 30 64 2 rfl rfl rfl rfl rfl rfl trivial ?_
  refine e1 72 rfl ?_
  refine keep [1, 30] rfl ?_
  refine q1 rfl (fun hc3 => ?_) (fun hc3 => ?_)
  · skip
    try simp only [cs, ne_eq] at hc3
    refine r1 ?_
    refine s1 6 72 1 rfl rfl rfl rfl rfl rfl trivial ?_
    refine s1 7 80 2 rfl rfl rfl rfl rfl rfl trivial ?_
    refine s1 8 88 3 rfl rfl rfl rfl rfl rfl trivial ?_
    refine e1 96 rfl ?_
    refine keep [6, 7, 8] rfl ?_
    refine W_ret ?_
    refine tr ?_
    exact out3 6 7 8 (SV.b (putS c told fin).1) (SV.i (putS c told fin).2.1) (SV.b (putS c told fin).2.2) (π := []) (hout := []) Tryd.results25 rfl rfl rfl (by rw [putS_no hc1 hc3]; rfl) (by rw [putS_no hc1 hc3]; rfl) (by rw [putS_no hc1 hc3]; rfl) rfl rfl trivial ⟨rfl, rfl⟩
  try simp only [cs, ne_eq] at hc3
  refine W_skip ?_
  refine tn ?_
  refine W_seq ?_
  refine r1 ?_
  refine s1 31 72 1 rfl rfl rfl rfl rfl rfl trivial ?_
  refine s1 32 80 2 rfl rfl rfl rfl rfl rfl (by first | trivial | omega) ?_
  refine s1 33 88 3 rfl rfl rfl rfl rfl rfl (by first | trivial | omega) ?_
  refine e1 96 rfl ?_
  refine keep [1, 33] rfl ?_
  refine q1 rfl (fun hc5 => ?_) (fun hc5 => ?_)
  · skip
    try simp only [cs, ne_eq] at hc5
    refine r1 ?_
    refine s1 6 96 1 rfl rfl rfl rfl rfl rfl trivial ?_
    refine s1 7 104 2 rfl rfl rfl rfl rfl rfl trivial ?_
    refine s1 8 112 3 rfl rfl rfl rfl rfl rfl trivial ?_
    refine e1 120 rfl ?_
    refine keep [6, 7, 8] rfl ?_
    refine W_ret ?_
    refine tr ?_
    exact out3 6 7 8 (SV.b (putS c told fin).1) (SV.i (putS c told fin).2.1) (SV.b (putS c told fin).2.2) (π := []) (hout := []) Tryd.results25 rfl rfl rfl (by rw [putS_bad hc1 hc3 hc5]; rfl) (by rw [putS_bad hc1 hc3 hc5]; rfl) (by rw [putS_bad hc1 hc3 hc5]; rfl) rfl rfl trivial ⟨rfl, rfl⟩
  try simp only [cs, ne_eq] at hc5
  refine W_skip ?_
  refine tn ?_
  refine rd1 rfl ?_
  refine d1 34 96 1 rfl rfl rfl rfl rfl rfl trivial ?_
  refine d1 35 104 2 rfl rfl rfl rfl rfl rfl (by first | trivial | omega) ?_
  refine d1 36 112 3 rfl rfl rfl rfl rfl rfl (by first | trivial | omega) ?_
  refine d1 6 120 4 rfl rfl rfl rfl rfl rfl trivial ?_
  refine d1 7 128 5 rfl rfl rfl rfl rfl rfl trivial ?_
  refine d1 8 136 6 rfl rfl rfl rfl rfl rfl trivial ?_
  refine de1 144 rfl (by kernel_rfl) ?_
  refine keep [6, 7, 8] rfl ?_
  refine W_ret ?_
  exact out3 6 7 8 (SV.b (putS c told fin).1) (SV.i (putS c told fin).2.1) (SV.b (putS c told fin).2.2) (π := []) (hout := []) Tryd.results25 rfl rfl rfl (by rw [putS_yes hc1 hc3 (by omega)]; rfl) (by rw [putS_yes hc1 hc3 (by omega)]; rfl) (by rw [putS_yes hc1 hc3 (by omega)]; rfl) rfl rfl trivial ⟨rfl, rfl⟩

theorem putS_nil (c : CallD) (ha : c.code = 0 → c.args.length = 1) : Spec Tryd.prog GV 25 [callS c, .d .nils, SV.b false] [] (fun r ho => r = SV.tup [SV.b (putS c [] false).1, SV.i (putS c [] false).2.1, SV.b (putS c [] false).2.2] ∧ ho = []) := by
  refine start 37 0 Tryd.func25 rfl rfl rfl rfl ?_
  refine r1 ?_
  refine s1 3 0 1 rfl rfl rfl rfl rfl rfl trivial ?_
  refine s1 6 8 2 rfl rfl rfl rfl rfl rfl trivial ?_
  refine s1 7 16 3 rfl rfl rfl rfl rfl rfl trivial ?_
  refine s1 8 24 4 rfl rfl rfl rfl rfl rfl trivial ?_
  refine e1 32 rfl ?_
  refine keep [1, 2, 3] rfl ?_
  refine W_seq ?_
  refine r1 ?_
  refine s1 9 32 1 rfl rfl rfl rfl rfl rfl trivial ?_
  refine s1 10 40 2 rfl rfl rfl rfl rfl rfl (by first | trivial | omega) ?_
  refine s1 11 48 3 rfl rfl rfl rfl rfl rfl (by first | trivial | omega) ?_
  refine e1 56 rfl ?_
  refine keep [1, 2, 3, 11] rfl ?_
  refine q1 rfl (fun hc1 => ?_) (fun hc1 => ?_)
  · skip
    try simp only [cs, ne_eq] at hc1
    refine rd1 rfl ?_
    refine d1 12 56 1 rfl rfl rfl rfl rfl rfl trivial ?_
    refine d1 13 64 2 rfl rfl rfl rfl rfl rfl (by first | trivial | omega) ?_
    refine d1 14 72 3 rfl rfl rfl rfl rfl rfl (by refine ⟨Int.le_refl _, ?_⟩; have := ha hc1; show (0 : Int) < ((c.args.length : Nat) : Int); omega) ?_
    refine d1 15 80 4 rfl rfl rfl rfl rfl rfl (by first | trivial | omega) ?_
    refine d1 16 88 5 rfl rfl rfl rfl rfl rfl trivial ?_
    refine d1 17 96 6 rfl rfl rfl rfl rfl rfl trivial ?_
    refine d1 18 104 7 rfl rfl rfl rfl rfl rfl trivial ?_
    refine ask 18 rfl (fun hg2_18 => ?_) (fun hg2_18 => ?_)
    · skip
      try simp only [cs, ne_eq] at hg2_18
      refine g0 6 false 18 19 8 rfl rfl rfl rfl rfl rfl ?_
      refine g0 6 false 18 20 9 rfl rfl rfl rfl rfl rfl ?_
      refine g0 6 false 18 21 10 rfl rfl rfl rfl rfl rfl ?_
      refine g0 6 false 18 22 11 rfl rfl rfl rfl rfl rfl ?_
      refine gz 10 true 22 23 12 rfl rfl rfl rfl rfl rfl ?_
      refine gz 10 true 22 24 13 rfl rfl rfl rfl rfl rfl ?_
      refine gz 10 true 22 25 14 rfl rfl rfl rfl rfl rfl ?_
      refine gz 10 true 22 26 15 rfl rfl rfl rfl rfl rfl ?_
      refine g0 6 false 18 27 16 rfl rfl rfl rfl rfl rfl ?_
      refine d1 28 184 17 rfl rfl rfl rfl rfl rfl trivial ?_
      refine d1 6 192 18 rfl rfl rfl rfl rfl rfl trivial ?_
      refine d1 7 200 19 rfl rfl rfl rfl rfl rfl trivial ?_
      refine d1 8 208 20 rfl rfl rfl rfl rfl rfl trivial ?_
      refine de1 216 rfl (by kernel_rfl) ?_
      refine keep [6, 7, 8] rfl ?_
      refine W_ret ?_
      refine tr ?_
      exact out3 6 7 8 (SV.b (putS c [] false).1) (SV.i (putS c [] false).2.1) (SV.b (putS c [] false).2.2) (π := []) (hout := []) Tryd.results25 rfl rfl rfl (by rw [putS_p0 hc1 rfl]; rfl) (by rw [putS_p0 hc1 rfl]; rfl) (by rw [putS_p0 hc1 rfl]; rfl) rfl rfl trivial ⟨rfl, rfl⟩
    try simp only [cs, ne_eq] at hg2_18
    exact absurd hg2_18 (by decide)
  try simp only [cs, ne_eq] at hc1
  refine W_skip ?_
  refine tn ?_
  refine W_seq ?_
  refine r1 ?_
  refine s1 29 56 1 rfl rfl rfl rfl rfl rfl trivial ?_
  refine s1 30 64 2 rfl rfl rfl rfl rfl rfl trivial ?_
  refine e1 72 rfl ?_
  refine keep [1, 30] rfl ?_
  refine q1 rfl (fun hc3 => ?_) (fun hc3 => ?_)
  · skip
    try simp only [cs, ne_eq] at hc3
    refine r1 ?_
    refine s1 6 72 1 rfl rfl rfl rfl rfl rfl trivial ?_
    refine s1 7 80 2 rfl rfl rfl rfl rfl rfl trivial ?_
    refine s1 8 88 3 rfl rfl rfl rfl rfl rfl trivial ?_
    refine e1 96 rfl ?_
    refine keep [6, 7, 8] rfl ?_
    refine W_ret ?_
    refine tr ?_
    exact out3 6 7 8 (SV.b (putS c [] false).1) (SV.i (putS c [] false).2.1) (SV.b (putS c [] false).2.2) (π := []) (hout := []) Tryd.results25 rfl rfl rfl (by rw [putS_no hc1 rfl]; rfl) (by rw [putS_no hc1 rfl]; rfl) (by rw [putS_no hc1 rfl]; rfl) rfl rfl trivial ⟨rfl, rfl⟩
  exact absurd hc3 (by decide)

theorem words_stack  : Spec Tryd.prog GV 22 [SV.i 8] [] (fun r ho => r = SV.tup [.sl 0 0 18, SV.i 0] ∧ ho = [some (.rows 3 1 18 (intsF stW))]) := by
  refine start 28 0 Tryd.func22 rfl rfl rfl rfl ?_
  refine r1 ?_
  refine s1 2 0 1 rfl rfl rfl rfl rfl rfl trivial ?_
  refine s1 3 8 2 rfl rfl rfl rfl rfl rfl trivial ?_
  refine e1 16 rfl ?_
  refine keep [0] rfl ?_
  refine W_seq ?_
  refine r1 ?_
  refine s1 6 16 1 rfl rfl rfl rfl rfl rfl trivial ?_
  refine c1 (stack_may_any 8) [] [] 7 24 2 rfl rfl rfl rfl rfl rfl rfl rfl Tryd.func48 rfl rfl rfl rfl trivial rfl rfl ?_
  refine s1 8 32 3 rfl rfl rfl rfl rfl rfl trivial ?_
  refine e1 40 rfl ?_
  refine keep [0, 8] rfl ?_
  refine q1 rfl (fun hc1 => ?_) (fun hc1 => ?_)
  · skip
    exact absurd hc1 (by decide)
  try simp only [cs, ne_eq] at hc1
  refine W_skip ?_
  refine tn ?_
  refine r1 ?_
  refine s1 9 40 1 rfl rfl rfl rfl rfl rfl trivial ?_
  refine sA 10 48 2 rfl rfl rfl rfl rfl rfl rfl rfl rfl (by unfold inRange; omega) ?_
  refine val 10 (SV.i 16) rfl rfl ?_
  refine sA 11 56 3 rfl rfl rfl rfl rfl rfl rfl rfl rfl (by unfold inRange; omega) ?_
  refine val 11 (SV.i 18) rfl rfl ?_
  refine s1 12 64 4 rfl rfl rfl rfl rfl rfl ⟨by decide, rfl, by decide, by decide⟩ ?_
  refine s1 4 72 5 rfl rfl rfl rfl rfl rfl trivial ?_
  refine e1 80 rfl ?_
  refine keep [0, 4] rfl ?_
  refine r1 ?_
  refine s1 13 80 1 rfl rfl rfl rfl rfl rfl trivial ?_
  refine s1 14 88 2 rfl rfl rfl rfl rfl rfl (by first | trivial | omega) ?_
  refine s0 96 3 rfl rfl rfl rfl rfl (by first | trivial | omega) ?_
  refine e1 104 rfl ?_
  refine keep [0, 4] rfl ?_
  refine W_seq ?_
  refine r1 ?_
  refine s1 5 104 1 rfl rfl rfl rfl rfl rfl trivial ?_
  refine e1 112 rfl ?_
  refine keep [0, 4, 5] rfl ?_
  refine W_block ?_
  refine W_unroll 8 ?_
  refine unr ?_
  refine W_seq ?_
  refine r1 ?_
  refine s1 15 112 1 rfl rfl rfl rfl rfl rfl trivial ?_
  refine s1 16 120 2 rfl rfl rfl rfl rfl rfl trivial ?_
  refine s1 17 128 3 rfl rfl rfl rfl rfl rfl (by first | trivial | omega) ?_
  refine e1 136 rfl ?_
  refine keep [0, 4, 5, 17] rfl ?_
  refine q1 rfl (fun hc6 => ?_) (fun hc6 => ?_)
  · skip
    try simp only [cs, ne_eq] at hc6
    refine W_skip ?_
    refine tn ?_
    refine W_seq ?_
    refine W_block ?_
    refine r0 ?_
    refine s1 20 136 1 rfl rfl rfl rfl rfl rfl trivial ?_
    refine s1 21 144 2 rfl rfl rfl rfl rfl rfl trivial ?_
    refine sA 22 152 3 rfl rfl rfl rfl rfl rfl rfl rfl rfl (by unfold inRange; omega) ?_
    refine val 22 (SV.i 2) rfl rfl ?_
    refine sA 23 160 4 rfl rfl rfl rfl rfl rfl rfl rfl rfl (by unfold inRange; omega) ?_
    refine val 23 (SV.i 3) rfl rfl ?_
    refine s1 24 168 5 rfl rfl rfl rfl rfl rfl trivial ?_
    refine sA 25 176 6 rfl rfl rfl rfl rfl rfl rfl rfl rfl (by unfold inRange; omega) ?_
    refine val 25 (SV.i 2) rfl rfl ?_
    refine s1 26 184 7 rfl rfl rfl rfl rfl rfl (by first | trivial | omega) ?_
    refine s0 192 8 rfl rfl rfl rfl rfl (by first | trivial | omega) ?_
    refine e1 200 rfl ?_
    refine bn ?_
    refine tn ?_
    refine r0 ?_
    refine s1 18 200 1 rfl rfl rfl rfl rfl rfl trivial ?_
    refine sA 19 208 2 rfl rfl rfl rfl rfl rfl rfl rfl rfl (by unfold inRange; omega) ?_
    refine val 19 (SV.i 2) rfl rfl ?_
    refine s1 5 216 3 rfl rfl rfl rfl rfl rfl trivial ?_
    refine e1 224 rfl ?_
    refine tn ?_
    refine unr ?_
    refine W_seq ?_
    refine r1 ?_
    refine s1 15 224 1 rfl rfl rfl rfl rfl rfl trivial ?_
    refine s1 16 232 2 rfl rfl rfl rfl rfl rfl trivial ?_
    refine s1 17 240 3 rfl rfl rfl rfl rfl rfl (by first | trivial | omega) ?_
    refine e1 248 rfl ?_
    refine keep [0, 4, 5, 17] rfl ?_
    refine q1 rfl (fun hc6 => ?_) (fun hc6 => ?_)
    · skip
      try simp only [cs, ne_eq] at hc6
      refine W_skip ?_
      refine tn ?_
      refine W_seq ?_
      refine W_block ?_
      refine r0 ?_
      refine s1 20 248 1 rfl rfl rfl rfl rfl rfl trivial ?_
      refine s1 21 256 2 rfl rfl rfl rfl rfl rfl trivial ?_
      refine sA 22 264 3 rfl rfl rfl rfl rfl rfl rfl rfl rfl (by unfold inRange; omega) ?_
      refine val 22 (SV.i 4) rfl rfl ?_
      refine sA 23 272 4 rfl rfl rfl rfl rfl rfl rfl rfl rfl (by unfold inRange; omega) ?_
      refine val 23 (SV.i 5) rfl rfl ?_
      refine s1 24 280 5 rfl rfl rfl rfl rfl rfl trivial ?_
      refine sA 25 288 6 rfl rfl rfl rfl rfl rfl rfl rfl rfl (by unfold inRange; omega) ?_
      refine val 25 (SV.i 3) rfl rfl ?_
      refine s1 26 296 7 rfl rfl rfl rfl rfl rfl (by first | trivial | omega) ?_
      refine s0 304 8 rfl rfl rfl rfl rfl (by first | trivial | omega) ?_
      refine e1 312 rfl ?_
      refine bn ?_
      refine tn ?_
      refine r0 ?_
      refine s1 18 312 1 rfl rfl rfl rfl rfl rfl trivial ?_
      refine sA 19 320 2 rfl rfl rfl rfl rfl rfl rfl rfl rfl (by unfold inRange; omega) ?_
      refine val 19 (SV.i 3) rfl rfl ?_
      refine s1 5 328 3 rfl rfl rfl rfl rfl rfl trivial ?_
      refine e1 336 rfl ?_
      refine tn ?_
      refine unr ?_
      refine W_seq ?_
      refine r1 ?_
      refine s1 15 336 1 rfl rfl rfl rfl rfl rfl trivial ?_
      refine s1 16 344 2 rfl rfl rfl rfl rfl rfl trivial ?_
      refine s1 17 352 3 rfl rfl rfl rfl rfl rfl (by first | trivial | omega) ?_
      refine e1 360 rfl ?_
      refine keep [0, 4, 5, 17] rfl ?_
      refine q1 rfl (fun hc6 => ?_) (fun hc6 => ?_)
      · skip
        try simp only [cs, ne_eq] at hc6
        refine W_skip ?_
        refine tn ?_
        refine W_seq ?_
        refine W_block ?_
        refine r0 ?_
        refine s1 20 360 1 rfl rfl rfl rfl rfl rfl trivial ?_
        refine s1 21 368 2 rfl rfl rfl rfl rfl rfl trivial ?_
        refine sA 22 376 3 rfl rfl rfl rfl rfl rfl rfl rfl rfl (by unfold inRange; omega) ?_
        refine val 22 (SV.i 6) rfl rfl ?_
        refine sA 23 384 4 rfl rfl rfl rfl rfl rfl rfl rfl rfl (by unfold inRange; omega) ?_
        refine val 23 (SV.i 7) rfl rfl ?_
        refine s1 24 392 5 rfl rfl rfl rfl rfl rfl trivial ?_
        refine sA 25 400 6 rfl rfl rfl rfl rfl rfl rfl rfl rfl (by unfold inRange; omega) ?_
        refine val 25 (SV.i 4) rfl rfl ?_
        refine s1 26 408 7 rfl rfl rfl rfl rfl rfl (by first | trivial | omega) ?_
        refine s0 416 8 rfl rfl rfl rfl rfl (by first | trivial | omega) ?_
        refine e1 424 rfl ?_
        refine bn ?_
        refine tn ?_
        refine r0 ?_
        refine s1 18 424 1 rfl rfl rfl rfl rfl rfl trivial ?_
        refine sA 19 432 2 rfl rfl rfl rfl rfl rfl rfl rfl rfl (by unfold inRange; omega) ?_
        refine val 19 (SV.i 4) rfl rfl ?_
        refine s1 5 440 3 rfl rfl rfl rfl rfl rfl trivial ?_
        refine e1 448 rfl ?_
        refine tn ?_
        refine unr ?_
        refine W_seq ?_
        refine r1 ?_
        refine s1 15 448 1 rfl rfl rfl rfl rfl rfl trivial ?_
        refine s1 16 456 2 rfl rfl rfl rfl rfl rfl trivial ?_
        refine s1 17 464 3 rfl rfl rfl rfl rfl rfl (by first | trivial | omega) ?_
        refine e1 472 rfl ?_
        refine keep [0, 4, 5, 17] rfl ?_
        refine q1 rfl (fun hc6 => ?_) (fun hc6 => ?_)
        · skip
          try simp only [cs, ne_eq] at hc6
          refine W_skip ?_
          refine tn ?_
          refine W_seq ?_
          refine W_block ?_
          refine r0 ?_
          refine s1 20 472 1 rfl rfl rfl rfl rfl rfl trivial ?_
          refine s1 21 480 2 rfl rfl rfl rfl rfl rfl trivial ?_
          refine sA 22 488 3 rfl rfl rfl rfl rfl rfl rfl rfl rfl (by unfold inRange; omega) ?_
          refine val 22 (SV.i 8) rfl rfl ?_
          refine sA 23 496 4 rfl rfl rfl rfl rfl rfl rfl rfl rfl (by unfold inRange; omega) ?_
          refine val 23 (SV.i 9) rfl rfl ?_
          refine s1 24 504 5 rfl rfl rfl rfl rfl rfl trivial ?_
          refine sA 25 512 6 rfl rfl rfl rfl rfl rfl rfl rfl rfl (by unfold inRange; omega) ?_
          refine val 25 (SV.i 5) rfl rfl ?_
          refine s1 26 520 7 rfl rfl rfl rfl rfl rfl (by first | trivial | omega) ?_
          refine s0 528 8 rfl rfl rfl rfl rfl (by first | trivial | omega) ?_
          refine e1 536 rfl ?_
          refine bn ?_
          refine tn ?_
          refine r0 ?_
          refine s1 18 536 1 rfl rfl rfl rfl rfl rfl trivial ?_
          refine sA 19 544 2 rfl rfl rfl rfl rfl rfl rfl rfl rfl (by unfold inRange; omega) ?_
          refine val 19 (SV.i 5) rfl rfl ?_
          refine s1 5 552 3 rfl rfl rfl rfl rfl rfl trivial ?_
          refine e1 560 rfl ?_
          refine tn ?_
          refine unr ?_
          refine W_seq ?_
          refine r1 ?_
          refine s1 15 560 1 rfl rfl rfl rfl rfl rfl trivial ?_
          refine s1 16 568 2 rfl rfl rfl rfl rfl rfl trivial ?_
          refine s1 17 576 3 rfl rfl rfl rfl rfl rfl (by first | trivial | omega) ?_
          refine e1 584 rfl ?_
          refine keep [0, 4, 5, 17] rfl ?_
          refine q1 rfl (fun hc6 => ?_) (fun hc6 => ?_)
          · skip
            try simp only [cs, ne_eq] at hc6
            refine W_skip ?_
            refine tn ?_
            refine W_seq ?_
            refine W_block ?_
            refine r0 ?_
            refine s1 20 584 1 rfl rfl rfl rfl rfl rfl trivial ?_
            refine s1 21 592 2 rfl rfl rfl rfl rfl rfl trivial ?_
            refine sA 22 600 3 rfl rfl rfl rfl rfl rfl rfl rfl rfl (by unfold inRange; omega) ?_
            refine val 22 (SV.i 10) rfl rfl ?_
            refine sA 23 608 4 rfl rfl rfl rfl rfl rfl rfl rfl rfl (by unfold inRange; omega) ?_
            refine val 23 (SV.i 11) rfl rfl ?_
            refine s1 24 616 5 rfl rfl rfl rfl rfl rfl trivial ?_
            refine sA 25 624 6 rfl rfl rfl rfl rfl rfl rfl rfl rfl (by unfold inRange; omega) ?_
            refine val 25 (SV.i 6) rfl rfl ?_
            refine s1 26 632 7 rfl rfl rfl rfl rfl rfl (by first | trivial | omega) ?_
            refine s0 640 8 rfl rfl rfl rfl rfl (by first | trivial | omega) ?_
            refine e1 648 rfl ?_
            refine bn ?_
            refine tn ?_
            refine r0 ?_
            refine s1 18 648 1 rfl rfl rfl rfl rfl rfl trivial ?_
            refine sA 19 656 2 rfl rfl rfl rfl rfl rfl rfl rfl rfl (by unfold inRange; omega) ?_
            refine val 19 (SV.i 6) rfl rfl ?_
            refine s1 5 664 3 rfl rfl rfl rfl rfl rfl trivial ?_
            refine e1 672 rfl ?_
            refine tn ?_
            refine unr ?_
            refine W_seq ?_
            refine r1 ?_
            refine s1 15 672 1 rfl rfl rfl rfl rfl rfl trivial ?_
            refine s1 16 680 2 rfl rfl rfl rfl rfl rfl trivial ?_
            refine s1 17 688 3 rfl rfl rfl rfl rfl rfl (by first | trivial | omega) ?_
            refine e1 696 rfl ?_
            refine keep [0, 4, 5, 17] rfl ?_
            refine q1 rfl (fun hc6 => ?_) (fun hc6 => ?_)
            · skip
              try simp only [cs, ne_eq] at hc6
              refine W_skip ?_
              refine tn ?_
              refine W_seq ?_
              refine W_block ?_
              refine r0 ?_
              refine s1 20 696 1 rfl rfl rfl rfl rfl rfl trivial ?_
              refine s1 21 704 2 rfl rfl rfl rfl rfl rfl trivial ?_
              refine sA 22 712 3 rfl rfl rfl rfl rfl rfl rfl rfl rfl (by unfold inRange; omega) ?_
              refine val 22 (SV.i 12) rfl rfl ?_
              refine sA 23 720 4 rfl rfl rfl rfl rfl rfl rfl rfl rfl (by unfold inRange; omega) ?_
              refine val 23 (SV.i 13) rfl rfl ?_
              refine s1 24 728 5 rfl rfl rfl rfl rfl rfl trivial ?_
              refine sA 25 736 6 rfl rfl rfl rfl rfl rfl rfl rfl rfl (by unfold inRange; omega) ?_
              refine val 25 (SV.i 7) rfl rfl ?_
              refine s1 26 744 7 rfl rfl rfl rfl rfl rfl (by first | trivial | omega) ?_
              refine s0 752 8 rfl rfl rfl rfl rfl (by first | trivial | omega) ?_
              refine e1 760 rfl ?_
              refine bn ?_
              refine tn ?_
              refine r0 ?_
              refine s1 18 760 1 rfl rfl rfl rfl rfl rfl trivial ?_
              refine sA 19 768 2 rfl rfl rfl rfl rfl rfl rfl rfl rfl (by unfold inRange; omega) ?_
              refine val 19 (SV.i 7) rfl rfl ?_
              refine s1 5 776 3 rfl rfl rfl rfl rfl rfl trivial ?_
              refine e1 784 rfl ?_
              refine tn ?_
              refine unr ?_
              refine W_seq ?_
              refine r1 ?_
              refine s1 15 784 1 rfl rfl rfl rfl rfl rfl trivial ?_
              refine s1 16 792 2 rfl rfl rfl rfl rfl rfl trivial ?_
              refine s1 17 800 3 rfl rfl rfl rfl rfl rfl (by first | trivial | omega) ?_
              refine e1 808 rfl ?_
              refine keep [0, 4, 5, 17] rfl ?_
              refine q1 rfl (fun hc6 => ?_) (fun hc6 => ?_)
              · skip
                try simp only [cs, ne_eq] at hc6
                refine W_skip ?_
                refine tn ?_
                refine W_seq ?_
                refine W_block ?_
                refine r0 ?_
                refine s1 20 808 1 rfl rfl rfl rfl rfl rfl trivial ?_
                refine s1 21 816 2 rfl rfl rfl rfl rfl rfl trivial ?_
                refine sA 22 824 3 rfl rfl rfl rfl rfl rfl rfl rfl rfl (by unfold inRange; omega) ?_
                refine val 22 (SV.i 14) rfl rfl ?_
                refine sA 23 832 4 rfl rfl rfl rfl rfl rfl rfl rfl rfl (by unfold inRange; omega) ?_
                refine val 23 (SV.i 15) rfl rfl ?_
                refine s1 24 840 5 rfl rfl rfl rfl rfl rfl trivial ?_
                refine sA 25 848 6 rfl rfl rfl rfl rfl rfl rfl rfl rfl (by unfold inRange; omega) ?_
                refine val 25 (SV.i 8) rfl rfl ?_
                refine s1 26 856 7 rfl rfl rfl rfl rfl rfl (by first | trivial | omega) ?_
                refine s0 864 8 rfl rfl rfl rfl rfl (by first | trivial | omega) ?_
                refine e1 872 rfl ?_
                refine bn ?_
                refine tn ?_
                refine r0 ?_
                refine s1 18 872 1 rfl rfl rfl rfl rfl rfl trivial ?_
                refine sA 19 880 2 rfl rfl rfl rfl rfl rfl rfl rfl rfl (by unfold inRange; omega) ?_
                refine val 19 (SV.i 8) rfl rfl ?_
                refine s1 5 888 3 rfl rfl rfl rfl rfl rfl trivial ?_
                refine e1 896 rfl ?_
                refine tn ?_
                refine unr ?_
                refine W_seq ?_
                refine r1 ?_
                refine s1 15 896 1 rfl rfl rfl rfl rfl rfl trivial ?_
                refine s1 16 904 2 rfl rfl rfl rfl rfl rfl trivial ?_
                refine s1 17 912 3 rfl rfl rfl rfl rfl rfl (by first | trivial | omega) ?_
                refine e1 920 rfl ?_
                refine keep [0, 4, 5, 17] rfl ?_
                refine q1 rfl (fun hc6 => ?_) (fun hc6 => ?_)
                · skip
                  exact absurd hc6 (by decide)
                try simp only [cs, ne_eq] at hc6
                refine W_exit ?_
                refine tx ?_
                refine tx ?_
                refine bx ?_
                refine tn ?_
                refine rowsc (k := 1) (L := 18) 64 18 (intsF stW) rfl rfl (fun i c hi hc => by obtain rfl : c = 0 := (by omega); rcases (show i = 0 ∨ i = 1 ∨ i = 2 ∨ i = 3 ∨ i = 4 ∨ i = 5 ∨ i = 6 ∨ i = 7 ∨ i = 8 ∨ i = 9 ∨ i = 10 ∨ i = 11 ∨ i = 12 ∨ i = 13 ∨ i = 14 ∨ i = 15 ∨ i = 16 ∨ i = 17 by omega) with rfl | rfl | rfl | rfl | rfl | rfl | rfl | rfl | rfl | rfl | rfl | rfl | rfl | rfl | rfl | rfl | rfl | rfl <;> rfl) ?_
                refine cval 4 (.sl 64 0 18) rfl rfl ?_
                refine r1 ?_
                refine s1 27 920 1 rfl rfl rfl rfl rfl rfl trivial ?_
                refine s1 2 928 2 rfl rfl rfl rfl rfl rfl trivial ?_
                refine s1 3 936 3 rfl rfl rfl rfl rfl rfl trivial ?_
                refine e1 944 rfl ?_
                refine keep [2, 3] rfl ?_
                refine W_ret ?_
                exact out2 2 3 (.sl 0 0 18) (SV.i 0) (π := [64]) (hout := [some (.rows 3 1 18 (intsF stW))]) Tryd.results22 rfl rfl rfl rfl rfl rfl ⟨rfl, trivial⟩ ⟨rfl, rfl⟩
              exact absurd hc6 (by decide)
            exact absurd hc6 (by decide)
          exact absurd hc6 (by decide)
        exact absurd hc6 (by decide)
      exact absurd hc6 (by decide)
    exact absurd hc6 (by decide)
  exact absurd hc6 (by decide)

end Go.Proofs.YtnnjobmiepnedaaDoor.Nice
