/- Samples in buckets: the program and the document. -/
import Derived.Test.YtiedndnegmbkiaaDoorRollOf
namespace Go.Proofs.YtiedndnegmbkiaaDoor.Nice
open Go
set_option linter.unusedVariables false
set_option linter.unusedSimpArgs false
set_option maxRecDepth 100000
set_option maxHeartbeats 4000000

instance : Inhabited Roll := ⟨⟨0, 0, 0, 0⟩⟩
def flr (t w : Int) : Int := t - t % w
def rollC (r : Roll) : Nat → D
  | 0 => .val (.int .i64 r.c)
  | 1 => .val (.int .i64 r.lo)
  | 2 => .val (.int .i64 r.hi)
  | 3 => .val (.int .i64 r.s)
  | _ => .any
def rollF (l : List Roll) : Nat → Nat → D := fun i c => rollC (l.getD i default) c
def rollV (l : List Roll) : SV := .d (.vec 4 l.length (rollF l))
theorem mod_neg {t w : Int} (hw : 0 < w) (h : t.tmod w < 0) : t - (t.tmod w + w) = flr t w := by
  unfold flr
  have := Int.tmod_eq_emod (a := t) (b := w)
  have h2 := Int.emod_nonneg t (show w ≠ 0 by omega)
  split at this <;> omega
theorem mod_pos {t w : Int} (hw : 0 < w) (h : ¬ t.tmod w < 0) : t - t.tmod w = flr t w := by
  unfold flr
  have := Int.tmod_eq_emod (a := t) (b := w)
  have h2 := Int.emod_lt_of_pos t hw
  split at this <;> omega
theorem flr_mul (t w : Int) : flr t w = t / w * w := by
  unfold flr
  have := Int.mul_ediv_add_emod t w
  rw [Int.mul_comm]; omega
theorem div_neg {t w : Int} (hw : 0 < w) (h : t < t.tdiv w * w) : t.tdiv w - 1 = t / w := by
  have h1 := Int.mul_tdiv_add_tmod t w
  rw [Int.mul_comm] at h1
  have h2 : -w < t.tmod w := by
    have := Int.tmod_lt_of_pos (-t) hw
    rw [Int.neg_tmod] at this; omega
  have h4 : 0 ≤ t.tmod w + w ∧ t.tmod w + w < w := by omega
  have h3 : (t.tdiv w - 1) * w + (t.tmod w + w) = t := by rw [Int.sub_mul, Int.one_mul]; omega
  clear h1 h2 h
  symm
  generalize t.tdiv w - 1 = q at *
  generalize t.tmod w + w = m at *
  subst h3
  rw [Int.add_comm, Int.mul_comm, Int.add_mul_ediv_left _ _ (by omega), Int.ediv_eq_zero_of_lt (by omega) (by omega)]; omega
theorem div_pos {t w : Int} (hw : 0 < w) (h : ¬ t < t.tdiv w * w) : t.tdiv w = t / w := by
  have h1 := Int.mul_tdiv_add_tmod t w
  rw [Int.mul_comm] at h1
  have h2 : t.tmod w < w := Int.tmod_lt_of_pos t hw
  have h4 : 0 ≤ t.tmod w ∧ t.tmod w < w := by omega
  clear h2 h
  symm
  generalize t.tdiv w = q at *
  generalize t.tmod w = m at *
  subst h1
  rw [Int.add_comm, Int.mul_comm, Int.add_mul_ediv_left _ _ (by omega), Int.ediv_eq_zero_of_lt (by omega) (by omega)]; omega
theorem tdiv_bd {t w : Int} (hw : 0 < w) (ht : inV t) : -36028797018963969 ≤ t.tdiv w ∧ t.tdiv w ≤ 36028797018963969 ∧ -72057594037927936 ≤ t.tdiv w * w ∧ t.tdiv w * w ≤ 72057594037927936 := by
  obtain ⟨a, b⟩ := ht
  have h1 := Int.mul_tdiv_add_tmod t w
  have h2 : t.tmod w < w := Int.tmod_lt_of_pos t hw
  have n1 : (t.tdiv w).natAbs ≤ t.natAbs := by rw [Int.natAbs_tdiv]; exact Nat.div_le_self _ _
  have n2 : (t.tmod w).natAbs ≤ t.natAbs := by rw [Int.natAbs_tmod]; exact Nat.mod_le _ _
  rw [Int.mul_comm] at h1
  omega
theorem flr_bd {t w : Int} (hw : 0 < w) (hw2 : w ≤ 1048576) (ht : inV t) : -72057594037927936 ≤ flr t w ∧ flr t w ≤ 72057594037927936 := by
  obtain ⟨a, b⟩ := ht
  unfold flr
  have h1 := Int.emod_nonneg t (show w ≠ 0 by omega)
  have h2 := Int.emod_lt_of_pos t hw
  omega
def isNew (bs : List Smp) (f : Int) : Prop := bs.length = 0 ∨ (bs.getD (bs.length - 1) default).t ≠ f
instance (bs : List Smp) (f : Int) : Decidable (isNew bs f) := inferInstanceAs (Decidable (_ ∨ _))
def push1 (b : List Smp × List Roll) (f v : Int) : List Smp × List Roll := if isNew b.1 f then (b.1 ++ [⟨f, v⟩], b.2 ++ [⟨0, 0, 0, 0⟩]) else b
def upd1 (rs : List Roll) (v : Int) : List Roll := rs.set (rs.length - 1) (withR (rs.getD (rs.length - 1) default) v)
def bk (l : List Smp) (w : Int) : Nat → List Smp × List Roll
  | 0 => ([], [])
  | k + 1 => ((push1 (bk l w k) (flr (l.getD k default).t w) (l.getD k default).v).1, upd1 (push1 (bk l w k) (flr (l.getD k default).t w) (l.getD k default).v).2 (l.getD k default).v)
theorem push1_len (b : List Smp × List Roll) (f v : Int) (h : b.1.length = b.2.length) : (push1 b f v).1.length = (push1 b f v).2.length ∧ 0 < (push1 b f v).2.length ∧ (push1 b f v).2.length ≤ b.2.length + 1 := by
  unfold push1
  split
  · simp [h]
  · next hn =>
    have : b.1.length ≠ 0 := fun e => hn (.inl e)
    omega
theorem bk_len (l : List Smp) (w : Int) : ∀ k, (bk l w k).1.length = (bk l w k).2.length ∧ (bk l w k).2.length ≤ k
  | 0 => ⟨rfl, Nat.le_refl _⟩
  | k + 1 => by
    obtain ⟨h1, h2⟩ := bk_len l w k
    obtain ⟨g1, g2, g3⟩ := push1_len (bk l w k) (flr (l.getD k default).t w) (l.getD k default).v h1
    constructor
    · show (push1 _ _ _).1.length = (upd1 _ _).length
      unfold upd1; rw [List.length_set]; exact g1
    · show (upd1 _ _).length ≤ _
      unfold upd1; rw [List.length_set]; omega
def smallR (n : Int) (r : Roll) : Prop := 0 ≤ r.c ∧ r.c ≤ n ∧ -(n * 36028797018963968) ≤ r.s ∧ r.s ≤ n * 36028797018963968
theorem small_up {n m : Int} {r : Roll} (h : smallR n r) (hm : n ≤ m) : smallR m r := by
  obtain ⟨h1, h2, h3, h4⟩ := h; exact ⟨h1, by omega, by omega, by omega⟩
theorem small_with {n : Int} {r : Roll} {v : Int} (h : smallR n r) (hv : inV v) (hn : 0 ≤ n) : smallR (n + 1) (withR r v) := by
  obtain ⟨h1, h2, h3, h4⟩ := h
  obtain ⟨g1, g2⟩ := hv
  unfold withR joined
  split
  · exact ⟨by show (0 : Int) ≤ 1; decide, by show (1 : Int) ≤ _; omega, by show _ ≤ v; omega, by show v ≤ _; omega⟩
  · rw [if_neg (by show ¬ (1 : Int) = 0; decide)]
    exact ⟨by show 0 ≤ r.c + 1; omega, by show r.c + 1 ≤ _; omega, by show _ ≤ r.s + v; omega, by show r.s + v ≤ _; omega⟩
theorem push_small {n : Int} (hn : 0 ≤ n) {b : List Smp × List Roll} {f v : Int} (h : ∀ r ∈ b.2, smallR n r) : ∀ r ∈ (push1 b f v).2, smallR n r := by
  unfold push1
  split
  · intro r hr
    rcases List.mem_append.1 hr with hr | hr
    · exact h r hr
    · obtain rfl := List.mem_singleton.1 hr
      exact ⟨Int.le_refl _, hn, by show -(n * 36028797018963968) ≤ 0; omega, by show (0 : Int) ≤ n * 36028797018963968; omega⟩
  · exact h
theorem getR_small {n : Int} (hn : 0 ≤ n) {rs : List Roll} (h : ∀ r ∈ rs, smallR n r) (i : Nat) : smallR n (rs.getD i default) := by
  by_cases hi : i < rs.length
  · rw [show rs.getD i default = rs[i] from by simp [List.getD, hi]]; exact h _ (List.getElem_mem hi)
  · rw [show rs.getD i default = ⟨0, 0, 0, 0⟩ from by rw [List.getD_eq_getElem?_getD, List.getElem?_eq_none (by omega)]; rfl]
    exact ⟨Int.le_refl _, hn, by show -(n * 36028797018963968) ≤ 0; omega, by show (0 : Int) ≤ n * 36028797018963968; omega⟩
theorem bk_small {l : List Smp} (hv : ∀ j, j < l.length → inV (l.getD j default).v) (w : Int) : ∀ k, k ≤ l.length → ∀ r ∈ (bk l w k).2, smallR k r
  | 0, _ => fun r hr => by cases hr
  | k + 1, hk => by
    intro r hr
    have ih := bk_small hv w k (by omega)
    have hp := push_small (f := flr (l.getD k default).t w) (v := (l.getD k default).v) (by omega) ih
    have hr : r ∈ upd1 _ _ := hr
    unfold upd1 at hr
    rcases List.mem_or_eq_of_mem_set hr with hr | rfl
    · exact small_up (hp r hr) (by omega)
    · have := small_with (getR_small (by omega) hp ((push1 (bk l w k) (flr (l.getD k default).t w) (l.getD k default).v).2.length - 1)) (hv k (by omega)) (by omega)
      exact small_up this (by omega)
theorem samp_in {l : List Smp} (hz : sfault l = 0) : ∀ j, j < l.length → inV (l.getD j default).t ∧ inV (l.getD j default).v := fun j hj => ⟨(smp_at (sf_parts hz).2 hj).1, (smp_at (sf_parts hz).2 hj).2.1⟩
def bucE (l : List Smp) (w : Int) : Int := if w < 1 ∨ 1048576 < w then 2 else if sfault l ≠ 0 then sfault l else if 100 < (bk l w l.length).1.length then 8 else 0
theorem cat_smp {A : List Smp} {s : Smp} (i c : Nat) (hi : i < A.length + 1) (hc : c < 2) : catR (smpF A) A.length (litR 2 [.val (.int .i64 s.t), .val (.int .i64 s.v)]) i c = smpF (A ++ [s]) i c := by
  unfold catR smpF
  by_cases h : i < A.length
  · rw [if_pos h]; simp [List.getD, List.getElem?_append_left h]
  · obtain rfl : i = A.length := by omega
    rw [if_neg (Nat.lt_irrefl _)]
    have : (A ++ [s]).getD A.length default = s := by simp [List.getD]
    rw [this, Nat.sub_self]
    match c, hc with
    | 0, _ => rfl
    | 1, _ => rfl
theorem cat_roll {A : List Roll} {r : Roll} (i c : Nat) (hi : i < A.length + 1) (hc : c < 4) : catR (rollF A) A.length (litR 4 [.val (.int .i64 r.c), .val (.int .i64 r.lo), .val (.int .i64 r.hi), .val (.int .i64 r.s)]) i c = rollF (A ++ [r]) i c := by
  unfold catR rollF
  by_cases h : i < A.length
  · rw [if_pos h]; simp [List.getD, List.getElem?_append_left h]
  · obtain rfl : i = A.length := by omega
    rw [if_neg (Nat.lt_irrefl _)]
    have : (A ++ [r]).getD A.length default = r := by simp [List.getD]
    rw [this, Nat.sub_self]
    match c, hc with
    | 0, _ => rfl
    | 1, _ => rfl
    | 2, _ => rfl
    | 3, _ => rfl
theorem set_roll {A : List Roll} {j : Nat} {r : Roll} (i c : Nat) (hi : i < A.length) (hc : c < 4) : updR (rollF A) j 0 [.val (.int .i64 r.c), .val (.int .i64 r.lo), .val (.int .i64 r.hi), .val (.int .i64 r.s)] i c = rollF (A.set j r) i c := by
  unfold updR rollF
  have e : (A.set j r).getD i default = if j = i then r else A.getD i default := by
    rw [show (A.set j r).getD i default = (A.set j r)[i]'(by simpa using hi) from by simp [List.getD, hi], List.getElem_set, show A.getD i default = A[i] from by simp [List.getD, hi]]
  rw [e]
  by_cases h : i = j
  · subst h
    match c, hc with
    | 0, _ => simp [rollC]
    | 1, _ => simp [rollC]
    | 2, _ => simp [rollC]
    | 3, _ => simp [rollC]
  · rw [if_neg (fun x => h x.1), if_neg (Ne.symm h)]
theorem fold_take {l m : List Int} : ∀ n, n ≤ l.length → foldTo (l ++ m) n = foldTo l n
  | 0, _ => rfl
  | n + 1, hn => by
    show stepR _ _ _ = stepR _ _ _
    rw [fold_take n (by omega)]
    have : (l ++ m).getD n 0 = l.getD n 0 := by simp [List.getD, List.getElem?_append_left (show n < l.length by omega)]
    rw [this]
theorem fold_snoc (l : List Int) (v : Int) : foldTo (l ++ [v]) (l ++ [v]).length = withR (foldTo l l.length) v := by
  rw [show (l ++ [v]).length = l.length + 1 by simp, fold_with, fold_take _ (Nat.le_refl _)]
  congr 1
  simp [List.getD]
theorem upd1_last (rs : List Roll) (r : Roll) (v : Int) : upd1 (rs ++ [r]) v = rs ++ [withR r v] := by
  unfold upd1
  have e : (rs ++ [r]).getD ((rs ++ [r]).length - 1) default = r := by simp [List.getD]
  rw [e]
  simp
theorem last_snoc (bs : List Smp) (s : Smp) : ((bs ++ [s]).getD ((bs ++ [s]).length - 1) default) = s := by simp [List.getD]
/-- Inside one bucket: what is behind j samples, the bucket having begun at i. -/
def inBk (l : List Smp) (w : Int) (i j : Nat) (bs : List Smp) (rs : List Roll) (vs : List Int) : Prop := (j = i ∧ vs = [] ∧ bk l w i = (bs, rs) ∧ isNew bs (flr (l.getD i default).t w)) ∨ (i < j ∧ bk l w j = (bs ++ [⟨flr (l.getD i default).t w, (l.getD i default).v⟩], rs ++ [foldTo vs vs.length]))
theorem inBk_step {l : List Smp} {w : Int} {i j : Nat} {bs : List Smp} {rs : List Roll} {vs : List Int} (h : inBk l w i j bs rs vs) (hf : flr (l.getD j default).t w = flr (l.getD i default).t w) : inBk l w i (j + 1) bs rs (vs ++ [(l.getD j default).v]) := by
  refine .inr ⟨by rcases h with h | h <;> omega, ?_⟩
  rw [fold_snoc]
  show ((push1 (bk l w j) _ _).1, upd1 (push1 (bk l w j) _ _).2 _) = _
  rcases h with ⟨rfl, rfl, h1, h2⟩ | ⟨h0, h1⟩
  · rw [h1]
    unfold push1
    rw [if_pos h2]
    show (bs ++ [_], upd1 (rs ++ [_]) _) = _
    rw [upd1_last]
    rfl
  · rw [h1]
    unfold push1
    rw [if_neg (by rintro (e | e); (simp at e); (rw [last_snoc] at e; exact e hf.symm))]
    show (bs ++ [_], upd1 (rs ++ [_]) _) = _
    rw [upd1_last]

theorem floor_any (t w : Int) (ht : inV t) (hw : 1 ≤ w) (hw2 : w ≤ 1048576) : Spec Tryd.prog GC 47 [SV.i t, SV.i w] [] (fun r ho => r = SV.i (flr t w) ∧ ho = []) := by
  obtain ⟨g1, g2⟩ := ht
  have hb := flr_bd (t := t) (w := w) (by omega) hw2 ⟨g1, g2⟩
  have hm : (t.tmod w).natAbs < w.natAbs := (by rw [Int.natAbs_tmod]; exact Nat.mod_lt _ (by omega))
  refine start 17 0 Tryd.func47 rfl rfl rfl rfl ?_
  refine r1 ?_
  refine s1 4 0 1 rfl rfl rfl rfl rfl rfl trivial ?_
  refine e1 8 rfl ?_
  refine keep [0, 1] rfl ?_
  refine r1 ?_
  refine s1 6 8 1 rfl rfl rfl rfl rfl rfl trivial ?_
  refine s1 7 16 2 rfl rfl rfl rfl rfl rfl trivial ?_
  refine s1 8 24 3 rfl rfl rfl rfl rfl rfl (by show _ ≠ _; omega) ?_
  refine s1 5 32 4 rfl rfl rfl rfl rfl rfl trivial ?_
  refine e1 40 rfl ?_
  refine keep [0, 1, 5] rfl ?_
  refine W_seq ?_
  refine r1 ?_
  refine s1 9 40 1 rfl rfl rfl rfl rfl rfl trivial ?_
  refine s1 10 48 2 rfl rfl rfl rfl rfl rfl (by first | trivial | omega | (simp only [List.length_map, List.length_append, List.length_cons, List.length_nil] at *; omega)) ?_
  refine e1 56 rfl ?_
  refine keep [0, 1, 5, 10] rfl ?_
  refine q1 rfl (fun hc2 => ?_) (fun hc2 => ?_)
  · skip
    try simp only [decide_eq_true_eq, decide_eq_false_iff_not, Bool.not_eq_true', Bool.not_eq_false', beq_iff_eq, bne_iff_ne, beq_eq_false_iff_ne, Bool.and_eq_true, Bool.or_eq_true, Bool.and_eq_false_iff, Bool.or_eq_false_iff, ge_iff_le, gt_iff_lt, Int.not_lt, Int.not_le, ne_eq, Decidable.not_not, bne_eq_false_iff_eq] at hc2
    refine r0 ?_
    refine s1 11 56 1 rfl rfl rfl rfl rfl rfl trivial ?_
    refine s1 12 64 2 rfl rfl rfl rfl rfl rfl trivial ?_
    refine sA 13 72 3 rfl rfl rfl rfl rfl rfl rfl rfl rfl (by unfold inRange; omega) ?_
    refine s1 5 80 4 rfl rfl rfl rfl rfl rfl trivial ?_
    refine e1 88 rfl ?_
    refine tn ?_
    refine r1 ?_
    refine s1 14 88 1 rfl rfl rfl rfl rfl rfl trivial ?_
    refine s1 15 96 2 rfl rfl rfl rfl rfl rfl trivial ?_
    refine sA 16 104 3 rfl rfl rfl rfl rfl rfl rfl rfl rfl (by unfold inRange; omega) ?_
    refine s1 4 112 4 rfl rfl rfl rfl rfl rfl trivial ?_
    refine e1 120 rfl ?_
    refine keep [4] rfl ?_
    refine W_ret ?_
    exact out1 4 (SV.i (flr t w)) (π := []) (hout := []) Tryd.results47 rfl (by first | exact (congrArg (fun x => SV.d (D.val (Value.int .i64 x))) (mod_neg (by omega) (by omega))) | exact (congrArg (fun x => SV.d (D.val (Value.int .i64 x))) (mod_pos (by omega) (by omega)))) rfl rfl trivial ⟨rfl, rfl⟩
  · skip
    try simp only [decide_eq_true_eq, decide_eq_false_iff_not, Bool.not_eq_true', Bool.not_eq_false', beq_iff_eq, bne_iff_ne, beq_eq_false_iff_ne, Bool.and_eq_true, Bool.or_eq_true, Bool.and_eq_false_iff, Bool.or_eq_false_iff, ge_iff_le, gt_iff_lt, Int.not_lt, Int.not_le, ne_eq, Decidable.not_not, bne_eq_false_iff_eq] at hc2
    refine W_skip ?_
    refine tn ?_
    refine r1 ?_
    refine s1 14 56 1 rfl rfl rfl rfl rfl rfl trivial ?_
    refine s1 15 64 2 rfl rfl rfl rfl rfl rfl trivial ?_
    refine sA 16 72 3 rfl rfl rfl rfl rfl rfl rfl rfl rfl (by unfold inRange; omega) ?_
    refine s1 4 80 4 rfl rfl rfl rfl rfl rfl trivial ?_
    refine e1 88 rfl ?_
    refine keep [4] rfl ?_
    refine W_ret ?_
    exact out1 4 (SV.i (flr t w)) (π := []) (hout := []) Tryd.results47 rfl (by first | exact (congrArg (fun x => SV.d (D.val (Value.int .i64 x))) (mod_neg (by omega) (by omega))) | exact (congrArg (fun x => SV.d (D.val (Value.int .i64 x))) (mod_pos (by omega) (by omega)))) rfl rfl trivial ⟨rfl, rfl⟩

theorem buck_range (l : List Smp) (hin : SmpIn l) (w : Int) (hwi : inRange w) (hw : ¬ (1 ≤ w ∧ w ≤ 1048576)) : Spec Tryd.prog GC 18 [smpV l, SV.i w] [] (fun r ho => r = SV.tup [.d .nils, .d .nils, SV.i (bucE l w)] ∧ ho = []) := by
  refine start 84 0 Tryd.func18 rfl rfl rfl rfl ?_
  refine r1 ?_
  refine s1 4 0 1 rfl rfl rfl rfl rfl rfl trivial ?_
  refine s1 5 8 2 rfl rfl rfl rfl rfl rfl trivial ?_
  refine s1 6 16 3 rfl rfl rfl rfl rfl rfl trivial ?_
  refine e1 24 rfl ?_
  refine keep [0, 1] rfl ?_
  refine W_seq ?_
  refine r1 ?_
  refine s1 16 24 1 rfl rfl rfl rfl rfl rfl trivial ?_
  refine s1 17 32 2 rfl rfl rfl rfl rfl rfl (by first | trivial | omega | (simp only [List.length_map, List.length_append, List.length_cons, List.length_nil] at *; omega)) ?_
  refine s1 18 40 3 rfl rfl rfl rfl rfl rfl trivial ?_
  refine ask 18 rfl (fun hg1_18 => ?_) (fun hg1_18 => ?_)
  · skip
    try simp only [decide_eq_true_eq, decide_eq_false_iff_not, Bool.not_eq_true', Bool.not_eq_false', beq_iff_eq, bne_iff_ne, beq_eq_false_iff_ne, Bool.and_eq_true, Bool.or_eq_true, Bool.and_eq_false_iff, Bool.or_eq_false_iff, ge_iff_le, gt_iff_lt, Int.not_lt, Int.not_le, ne_eq, Decidable.not_not, bne_eq_false_iff_eq] at hg1_18
    refine g0 2 false 18 19 4 rfl rfl rfl rfl rfl rfl ?_
    refine g0 2 false 18 20 5 rfl rfl rfl rfl rfl rfl ?_
    refine s1 21 64 6 rfl rfl rfl rfl rfl rfl trivial ?_
    refine e1 72 rfl ?_
    refine keep [0, 1, 21] rfl ?_
    refine q1 rfl (fun hc1 => ?_) (fun hc1 => ?_)
    · skip
      try simp only [decide_eq_true_eq, decide_eq_false_iff_not, Bool.not_eq_true', Bool.not_eq_false', beq_iff_eq, bne_iff_ne, beq_eq_false_iff_ne, Bool.and_eq_true, Bool.or_eq_true, Bool.and_eq_false_iff, Bool.or_eq_false_iff, ge_iff_le, gt_iff_lt, Int.not_lt, Int.not_le, ne_eq, Decidable.not_not, bne_eq_false_iff_eq] at hc1
      refine r1 ?_
      refine s1 4 72 1 rfl rfl rfl rfl rfl rfl trivial ?_
      refine s1 5 80 2 rfl rfl rfl rfl rfl rfl trivial ?_
      refine s1 6 88 3 rfl rfl rfl rfl rfl rfl trivial ?_
      refine e1 96 rfl ?_
      refine keep [4, 5, 6] rfl ?_
      refine W_ret ?_
      refine tr ?_
      exact out3 4 5 6 (.d .nils) (.d .nils) (SV.i (bucE l w)) (π := []) (hout := []) Tryd.results18 rfl rfl rfl rfl rfl (by unfold bucE; rw [if_pos (by omega)]; rfl) rfl rfl trivial ⟨rfl, rfl⟩
    · skip
      exact absurd hc1 (by decide)
  · skip
    try simp only [decide_eq_true_eq, decide_eq_false_iff_not, Bool.not_eq_true', Bool.not_eq_false', beq_iff_eq, bne_iff_ne, beq_eq_false_iff_ne, Bool.and_eq_true, Bool.or_eq_true, Bool.and_eq_false_iff, Bool.or_eq_false_iff, ge_iff_le, gt_iff_lt, Int.not_lt, Int.not_le, ne_eq, Decidable.not_not, bne_eq_false_iff_eq] at hg1_18
    refine g1 2 false 18 19 4 rfl rfl rfl rfl rfl ?_
    refine s1 19 48 4 rfl rfl rfl rfl rfl rfl trivial ?_
    refine g1 2 false 18 20 5 rfl rfl rfl rfl rfl ?_
    refine s1 20 56 5 rfl rfl rfl rfl rfl rfl (by first | trivial | omega | (simp only [List.length_map, List.length_append, List.length_cons, List.length_nil] at *; omega)) ?_
    refine s1 21 64 6 rfl rfl rfl rfl rfl rfl trivial ?_
    refine e1 72 rfl ?_
    refine keep [0, 1, 21] rfl ?_
    refine q1 rfl (fun hc1 => ?_) (fun hc1 => ?_)
    · skip
      try simp only [decide_eq_true_eq, decide_eq_false_iff_not, Bool.not_eq_true', Bool.not_eq_false', beq_iff_eq, bne_iff_ne, beq_eq_false_iff_ne, Bool.and_eq_true, Bool.or_eq_true, Bool.and_eq_false_iff, Bool.or_eq_false_iff, ge_iff_le, gt_iff_lt, Int.not_lt, Int.not_le, ne_eq, Decidable.not_not, bne_eq_false_iff_eq] at hc1
      refine r1 ?_
      refine s1 4 72 1 rfl rfl rfl rfl rfl rfl trivial ?_
      refine s1 5 80 2 rfl rfl rfl rfl rfl rfl trivial ?_
      refine s1 6 88 3 rfl rfl rfl rfl rfl rfl trivial ?_
      refine e1 96 rfl ?_
      refine keep [4, 5, 6] rfl ?_
      refine W_ret ?_
      refine tr ?_
      exact out3 4 5 6 (.d .nils) (.d .nils) (SV.i (bucE l w)) (π := []) (hout := []) Tryd.results18 rfl rfl rfl rfl rfl (by unfold bucE; rw [if_pos (by omega)]; rfl) rfl rfl trivial ⟨rfl, rfl⟩
    · skip
      exfalso; simp at hc1; omega

theorem buck_fault (l : List Smp) (hin : SmpIn l) (w : Int) (hwi : inRange w) (hw : 1 ≤ w ∧ w ≤ 1048576) (hz : sfault l ≠ 0) : Spec Tryd.prog GC 18 [smpV l, SV.i w] [] (fun r ho => r = SV.tup [.d .nils, .d .nils, SV.i (bucE l w)] ∧ ho = []) := by
  refine start 84 0 Tryd.func18 rfl rfl rfl rfl ?_
  refine r1 ?_
  refine s1 4 0 1 rfl rfl rfl rfl rfl rfl trivial ?_
  refine s1 5 8 2 rfl rfl rfl rfl rfl rfl trivial ?_
  refine s1 6 16 3 rfl rfl rfl rfl rfl rfl trivial ?_
  refine e1 24 rfl ?_
  refine keep [0, 1] rfl ?_
  refine W_seq ?_
  refine r1 ?_
  refine s1 16 24 1 rfl rfl rfl rfl rfl rfl trivial ?_
  refine s1 17 32 2 rfl rfl rfl rfl rfl rfl (by first | trivial | omega | (simp only [List.length_map, List.length_append, List.length_cons, List.length_nil] at *; omega)) ?_
  refine s1 18 40 3 rfl rfl rfl rfl rfl rfl trivial ?_
  refine ask 18 rfl (fun hg1_18 => ?_) (fun hg1_18 => ?_)
  · skip
    try simp only [decide_eq_true_eq, decide_eq_false_iff_not, Bool.not_eq_true', Bool.not_eq_false', beq_iff_eq, bne_iff_ne, beq_eq_false_iff_ne, Bool.and_eq_true, Bool.or_eq_true, Bool.and_eq_false_iff, Bool.or_eq_false_iff, ge_iff_le, gt_iff_lt, Int.not_lt, Int.not_le, ne_eq, Decidable.not_not, bne_eq_false_iff_eq] at hg1_18
    refine g0 2 false 18 19 4 rfl rfl rfl rfl rfl rfl ?_
    refine g0 2 false 18 20 5 rfl rfl rfl rfl rfl rfl ?_
    refine s1 21 64 6 rfl rfl rfl rfl rfl rfl trivial ?_
    refine e1 72 rfl ?_
    refine keep [0, 1, 21] rfl ?_
    refine q1 rfl (fun hc1 => ?_) (fun hc1 => ?_)
    · skip
      exfalso; simp at hc1; omega
    · skip
      exact absurd hc1 (by decide)
  · skip
    try simp only [decide_eq_true_eq, decide_eq_false_iff_not, Bool.not_eq_true', Bool.not_eq_false', beq_iff_eq, bne_iff_ne, beq_eq_false_iff_ne, Bool.and_eq_true, Bool.or_eq_true, Bool.and_eq_false_iff, Bool.or_eq_false_iff, ge_iff_le, gt_iff_lt, Int.not_lt, Int.not_le, ne_eq, Decidable.not_not, bne_eq_false_iff_eq] at hg1_18
    refine g1 2 false 18 19 4 rfl rfl rfl rfl rfl ?_
    refine s1 19 48 4 rfl rfl rfl rfl rfl rfl trivial ?_
    refine g1 2 false 18 20 5 rfl rfl rfl rfl rfl ?_
    refine s1 20 56 5 rfl rfl rfl rfl rfl rfl (by first | trivial | omega | (simp only [List.length_map, List.length_append, List.length_cons, List.length_nil] at *; omega)) ?_
    refine s1 21 64 6 rfl rfl rfl rfl rfl rfl trivial ?_
    refine e1 72 rfl ?_
    refine keep [0, 1, 21] rfl ?_
    refine q1 rfl (fun hc1 => ?_) (fun hc1 => ?_)
    · skip
      exfalso; simp at hc1; omega
    · skip
      try simp only [decide_eq_true_eq, decide_eq_false_iff_not, Bool.not_eq_true', Bool.not_eq_false', beq_iff_eq, bne_iff_ne, beq_eq_false_iff_ne, Bool.and_eq_true, Bool.or_eq_true, Bool.and_eq_false_iff, Bool.or_eq_false_iff, ge_iff_le, gt_iff_lt, Int.not_lt, Int.not_le, ne_eq, Decidable.not_not, bne_eq_false_iff_eq] at hc1
      refine W_skip ?_
      refine tn ?_
      refine W_seq ?_
      refine r1 ?_
      refine s1 23 72 1 rfl rfl rfl rfl rfl rfl trivial ?_
      refine c1 (encode_bad l hin hz) [] [] 24 80 2 rfl rfl rfl rfl rfl rfl rfl rfl Tryd.func10 rfl rfl rfl rfl trivial rfl rfl ?_
      refine s1 22 88 3 rfl rfl rfl rfl rfl rfl trivial ?_
      refine s1 25 96 4 rfl rfl rfl rfl rfl rfl trivial ?_
      refine s1 26 104 5 rfl rfl rfl rfl rfl rfl trivial ?_
      refine s1 7 112 6 rfl rfl rfl rfl rfl rfl trivial ?_
      refine s1 8 120 7 rfl rfl rfl rfl rfl rfl trivial ?_
      refine e1 128 rfl ?_
      refine keep [0, 1, 8] rfl ?_
      refine r1 ?_
      refine s1 27 128 1 rfl rfl rfl rfl rfl rfl trivial ?_
      refine s1 28 136 2 rfl rfl rfl rfl rfl rfl (by first | trivial | omega | (simp only [List.length_map, List.length_append, List.length_cons, List.length_nil] at *; omega)) ?_
      refine e1 144 rfl ?_
      refine keep [0, 1, 8, 28] rfl ?_
      refine q1 rfl (fun hc4 => ?_) (fun hc4 => ?_)
      · skip
        try simp only [decide_eq_true_eq, decide_eq_false_iff_not, Bool.not_eq_true', Bool.not_eq_false', beq_iff_eq, bne_iff_ne, beq_eq_false_iff_ne, Bool.and_eq_true, Bool.or_eq_true, Bool.and_eq_false_iff, Bool.or_eq_false_iff, ge_iff_le, gt_iff_lt, Int.not_lt, Int.not_le, ne_eq, Decidable.not_not, bne_eq_false_iff_eq] at hc4
        refine r1 ?_
        refine s1 29 144 1 rfl rfl rfl rfl rfl rfl trivial ?_
        refine s1 4 152 2 rfl rfl rfl rfl rfl rfl trivial ?_
        refine s1 5 160 3 rfl rfl rfl rfl rfl rfl trivial ?_
        refine s1 6 168 4 rfl rfl rfl rfl rfl rfl trivial ?_
        refine e1 176 rfl ?_
        refine keep [4, 5, 6] rfl ?_
        refine W_ret ?_
        refine tr ?_
        exact out3 4 5 6 (.d .nils) (.d .nils) (SV.i (bucE l w)) (π := []) (hout := []) Tryd.results18 rfl rfl rfl rfl rfl (by unfold bucE; rw [if_neg (by omega), if_pos hz]; rfl) rfl rfl trivial ⟨rfl, rfl⟩
      · skip
        exact absurd hc4 (by simpa using hz)

theorem buck_ok (l : List Smp) (hin : SmpIn l) (w : Int) (hwi : inRange w) (hw : 1 ≤ w ∧ w ≤ 1048576) (hz : sfault l = 0) (hn : (bk l w l.length).1.length ≤ 100) : Spec Tryd.prog GC 18 [smpV l, SV.i w] [] (fun r ho => r = SV.tup [.sl 0 0 (bk l w l.length).1.length, .sl 1 0 (bk l w l.length).2.length, SV.i 0] ∧ ho = [some (.rows 49 2 (bk l w l.length).1.length (smpF (bk l w l.length).1)), some (.rows 34 4 (bk l w l.length).2.length (rollF (bk l w l.length).2))]) := by
  have hp0 := sf_parts hz
  have hv := samp_in hz
  refine start 84 0 Tryd.func18 rfl rfl rfl rfl ?_
  refine r1 ?_
  refine s1 4 0 1 rfl rfl rfl rfl rfl rfl trivial ?_
  refine s1 5 8 2 rfl rfl rfl rfl rfl rfl trivial ?_
  refine s1 6 16 3 rfl rfl rfl rfl rfl rfl trivial ?_
  refine e1 24 rfl ?_
  refine keep [0, 1] rfl ?_
  refine W_seq ?_
  refine r1 ?_
  refine s1 16 24 1 rfl rfl rfl rfl rfl rfl trivial ?_
  refine s1 17 32 2 rfl rfl rfl rfl rfl rfl (by first | trivial | omega | (simp only [List.length_map, List.length_append, List.length_cons, List.length_nil] at *; omega)) ?_
  refine s1 18 40 3 rfl rfl rfl rfl rfl rfl trivial ?_
  refine ask 18 rfl (fun hg1_18 => ?_) (fun hg1_18 => ?_)
  · skip
    try simp only [decide_eq_true_eq, decide_eq_false_iff_not, Bool.not_eq_true', Bool.not_eq_false', beq_iff_eq, bne_iff_ne, beq_eq_false_iff_ne, Bool.and_eq_true, Bool.or_eq_true, Bool.and_eq_false_iff, Bool.or_eq_false_iff, ge_iff_le, gt_iff_lt, Int.not_lt, Int.not_le, ne_eq, Decidable.not_not, bne_eq_false_iff_eq] at hg1_18
    refine g0 2 false 18 19 4 rfl rfl rfl rfl rfl rfl ?_
    refine g0 2 false 18 20 5 rfl rfl rfl rfl rfl rfl ?_
    refine s1 21 64 6 rfl rfl rfl rfl rfl rfl trivial ?_
    refine e1 72 rfl ?_
    refine keep [0, 1, 21] rfl ?_
    refine q1 rfl (fun hc1 => ?_) (fun hc1 => ?_)
    · skip
      exfalso; simp at hc1; omega
    · skip
      exact absurd hc1 (by decide)
  · skip
    try simp only [decide_eq_true_eq, decide_eq_false_iff_not, Bool.not_eq_true', Bool.not_eq_false', beq_iff_eq, bne_iff_ne, beq_eq_false_iff_ne, Bool.and_eq_true, Bool.or_eq_true, Bool.and_eq_false_iff, Bool.or_eq_false_iff, ge_iff_le, gt_iff_lt, Int.not_lt, Int.not_le, ne_eq, Decidable.not_not, bne_eq_false_iff_eq] at hg1_18
    refine g1 2 false 18 19 4 rfl rfl rfl rfl rfl ?_
    refine s1 19 48 4 rfl rfl rfl rfl rfl rfl trivial ?_
    refine g1 2 false 18 20 5 rfl rfl rfl rfl rfl ?_
    refine s1 20 56 5 rfl rfl rfl rfl rfl rfl (by first | trivial | omega | (simp only [List.length_map, List.length_append, List.length_cons, List.length_nil] at *; omega)) ?_
    refine s1 21 64 6 rfl rfl rfl rfl rfl rfl trivial ?_
    refine e1 72 rfl ?_
    refine keep [0, 1, 21] rfl ?_
    refine q1 rfl (fun hc1 => ?_) (fun hc1 => ?_)
    · skip
      exfalso; simp at hc1; omega
    · skip
      try simp only [decide_eq_true_eq, decide_eq_false_iff_not, Bool.not_eq_true', Bool.not_eq_false', beq_iff_eq, bne_iff_ne, beq_eq_false_iff_ne, Bool.and_eq_true, Bool.or_eq_true, Bool.and_eq_false_iff, Bool.or_eq_false_iff, ge_iff_le, gt_iff_lt, Int.not_lt, Int.not_le, ne_eq, Decidable.not_not, bne_eq_false_iff_eq] at hc1
      refine W_skip ?_
      refine tn ?_
      refine W_seq ?_
      refine r1 ?_
      refine s1 23 72 1 rfl rfl rfl rfl rfl rfl trivial ?_
      refine c1 (encode_ok l hin hz) [] [80] 24 80 2 rfl rfl rfl rfl rfl rfl rfl rfl Tryd.func10 rfl rfl rfl rfl trivial rfl rfl ?_
      refine s1 22 88 3 rfl rfl rfl rfl rfl rfl trivial ?_
      refine s1 25 96 4 rfl rfl rfl rfl rfl rfl trivial ?_
      refine s1 26 104 5 rfl rfl rfl rfl rfl rfl trivial ?_
      refine s1 7 112 6 rfl rfl rfl rfl rfl rfl trivial ?_
      refine s1 8 120 7 rfl rfl rfl rfl rfl rfl trivial ?_
      refine e1 128 rfl ?_
      refine keep [0, 1, 8] rfl ?_
      refine r1 ?_
      refine s1 27 128 1 rfl rfl rfl rfl rfl rfl trivial ?_
      refine s1 28 136 2 rfl rfl rfl rfl rfl rfl (by first | trivial | omega | (simp only [List.length_map, List.length_append, List.length_cons, List.length_nil] at *; omega)) ?_
      refine e1 144 rfl ?_
      refine keep [0, 1, 8, 28] rfl ?_
      refine q1 rfl (fun hc4 => ?_) (fun hc4 => ?_)
      · skip
        exact absurd hc4 (by decide)
      · skip
        try simp only [decide_eq_true_eq, decide_eq_false_iff_not, Bool.not_eq_true', Bool.not_eq_false', beq_iff_eq, bne_iff_ne, beq_eq_false_iff_ne, Bool.and_eq_true, Bool.or_eq_true, Bool.and_eq_false_iff, Bool.or_eq_false_iff, ge_iff_le, gt_iff_lt, Int.not_lt, Int.not_le, ne_eq, Decidable.not_not, bne_eq_false_iff_eq] at hc4
        refine W_skip ?_
        refine tn ?_
        refine r1 ?_
        refine s1 9 144 1 rfl rfl rfl rfl rfl rfl trivial ?_
        refine e1 152 rfl ?_
        refine keep [0, 1, 9] rfl ?_
        refine r1 ?_
        refine s1 10 152 1 rfl rfl rfl rfl rfl rfl trivial ?_
        refine e1 160 rfl ?_
        refine keep [0, 1, 9, 10] rfl ?_
        refine W_seq ?_
        refine r1 ?_
        refine s1 30 160 1 rfl rfl rfl rfl rfl rfl trivial ?_
        refine s1 31 168 2 rfl rfl rfl rfl rfl rfl (by first | trivial | omega | (simp only [List.length_map, List.length_append, List.length_cons, List.length_nil] at *; omega)) ?_
        refine s1 32 176 3 rfl rfl rfl rfl rfl rfl trivial ?_
        refine e1 184 rfl ?_
        refine keep [1, 9, 10, 30, 31, 32] rfl ?_
        refine W_block ?_
        refine ghostly 9 49 2 (smpF []) rfl ?_
        refine ghostly 10 34 4 (rollF []) rfl ?_
        refine loop (α := Nat) 2 (fun k => [(1, SV.i w), (9, .sl 0 0 (bk l w (k)).1.length), (10, .sl 1 0 (bk l w (k)).2.length), (30, smpV l), (31, SV.i l.length), (32, SV.i (k))]) (fun k => [some (.rows 49 2 (bk l w (k)).1.length (smpF (bk l w (k)).1)), some (.rows 34 4 (bk l w (k)).2.length (rollF (bk l w (k)).2))]) (fun k => (k) ≤ l.length) (fun k => l.length - (k)) (((0) : Nat)) [184, 192] (fun _ => rfl) (show (0) ≤ l.length from (Nat.zero_le _)) rfl ⟨rfl, rfl, rfl, rfl, rfl, rfl, trivial⟩ ⟨rfl, rfl, trivial⟩ (fun k hx => ?_)
        show W _ _ _ ⟨tOf [(1, SV.i w), (9, .sl 0 0 (bk l w k).1.length), (10, .sl 1 0 (bk l w k).2.length), (30, smpV l), (31, SV.i l.length), (32, SV.i k)], hOf [some (.rows 49 2 (bk l w k).1.length (smpF (bk l w k).1)), some (.rows 34 4 (bk l w k).2.length (rollF (bk l w k).2))], 2⟩
        have hx : k ≤ l.length := hx
        have hlk := bk_len l w k
        have hsm := bk_small (fun j hj => (hv j hj).2) w k hx
        refine r1 ?_
        refine s1 33 2 1 rfl rfl rfl rfl rfl rfl (by first | trivial | omega | (simp only [List.length_map, List.length_append, List.length_cons, List.length_nil] at *; omega)) ?_
        refine e1 10 rfl ?_
        refine keep [1, 9, 10, 30, 31, 32, 33] rfl ?_
        refine W_seq ?_
        refine q1 rfl (fun hc9 => ?_) (fun hc9 => ?_)
        · skip
          try simp only [decide_eq_true_eq, decide_eq_false_iff_not, Bool.not_eq_true', Bool.not_eq_false', beq_iff_eq, bne_iff_ne, beq_eq_false_iff_ne, Bool.and_eq_true, Bool.or_eq_true, Bool.and_eq_false_iff, Bool.or_eq_false_iff, ge_iff_le, gt_iff_lt, Int.not_lt, Int.not_le, ne_eq, Decidable.not_not, bne_eq_false_iff_eq] at hc9
          have hvk := hv k (by omega)
          have hg := hvk.2
          obtain ⟨hv1, hv2⟩ := hg
          refine W_skip ?_
          refine tn ?_
          refine W_seq ?_
          refine W_block ?_
          refine r1 ?_
          refine s1 34 10 1 rfl rfl rfl rfl rfl rfl (by first | trivial | omega | (simp only [List.length_map, List.length_append, List.length_cons, List.length_nil] at *; omega)) ?_
          refine s1 35 18 2 rfl rfl rfl rfl rfl rfl (by first | trivial | omega | (simp only [List.length_map, List.length_append, List.length_cons, List.length_nil] at *; omega)) ?_
          refine val 35 (smpS (l.getD k default)) rfl (by first | rfl | (simp only [Nat.zero_add, Int.toNat_natCast]; rfl)) ?_
          refine s1 12 26 3 rfl rfl rfl rfl rfl rfl trivial ?_
          refine s0 34 4 rfl rfl rfl rfl rfl (by first | trivial | omega | (simp only [List.length_map, List.length_append, List.length_cons, List.length_nil] at *; omega)) ?_
          refine e1 42 rfl ?_
          refine keep [1, 9, 10, 12, 30, 31, 32] rfl ?_
          refine r1 ?_
          refine s1 36 42 1 rfl rfl rfl rfl rfl rfl trivial ?_
          refine s1 37 50 2 rfl rfl rfl rfl rfl rfl (by first | trivial | omega | (simp only [List.length_map, List.length_append, List.length_cons, List.length_nil] at *; omega)) ?_
          refine s1 38 58 3 rfl rfl rfl rfl rfl rfl trivial ?_
          refine c1 (floor_any (l.getD k default).t w hvk.1 hw.1 hw.2) [] [] 39 66 4 rfl rfl rfl rfl rfl rfl rfl rfl Tryd.func47 rfl rfl rfl rfl trivial rfl rfl ?_
          refine s1 13 74 5 rfl rfl rfl rfl rfl rfl trivial ?_
          refine e1 82 rfl ?_
          refine keep [1, 9, 10, 12, 13, 30, 31, 32] rfl ?_
          refine W_seq ?_
          refine r1 ?_
          refine s1 40 82 1 rfl rfl rfl rfl rfl rfl trivial ?_
          refine s1 41 90 2 rfl rfl rfl rfl rfl rfl (by first | trivial | omega | (simp only [List.length_map, List.length_append, List.length_cons, List.length_nil] at *; omega)) ?_
          refine s1 14 98 3 rfl rfl rfl rfl rfl rfl trivial ?_
          refine e1 106 rfl ?_
          refine keep [1, 9, 10, 12, 13, 14, 30, 31, 32] rfl ?_
          refine r1 ?_
          refine s1 42 106 1 rfl rfl rfl rfl rfl rfl trivial ?_
          refine s1 43 114 2 rfl rfl rfl rfl rfl rfl (by first | trivial | omega | (simp only [List.length_map, List.length_append, List.length_cons, List.length_nil] at *; omega)) ?_
          refine s1 44 122 3 rfl rfl rfl rfl rfl rfl trivial ?_
          refine ask 44 rfl (fun hg13_44 => ?_) (fun hg13_44 => ?_)
          · skip
            try simp only [decide_eq_true_eq, decide_eq_false_iff_not, Bool.not_eq_true', Bool.not_eq_false', beq_iff_eq, bne_iff_ne, beq_eq_false_iff_ne, Bool.and_eq_true, Bool.or_eq_true, Bool.and_eq_false_iff, Bool.or_eq_false_iff, ge_iff_le, gt_iff_lt, Int.not_lt, Int.not_le, ne_eq, Decidable.not_not, bne_eq_false_iff_eq] at hg13_44
            refine g0 2 false 44 45 4 rfl rfl rfl rfl rfl rfl ?_
            refine g0 2 false 44 46 5 rfl rfl rfl rfl rfl rfl ?_
            refine g0 2 false 44 47 6 rfl rfl rfl rfl rfl rfl ?_
            refine g0 2 false 44 48 7 rfl rfl rfl rfl rfl rfl ?_
            refine g0 2 false 44 49 8 rfl rfl rfl rfl rfl rfl ?_
            refine g0 2 false 44 50 9 rfl rfl rfl rfl rfl rfl ?_
            refine g0 2 false 44 51 10 rfl rfl rfl rfl rfl rfl ?_
            refine g0 2 false 44 52 11 rfl rfl rfl rfl rfl rfl ?_
            refine s1 53 194 12 rfl rfl rfl rfl rfl rfl trivial ?_
            refine e1 202 rfl ?_
            refine keep [1, 9, 10, 12, 13, 30, 31, 32, 53] rfl ?_
            refine q1 rfl (fun hc13 => ?_) (fun hc13 => ?_)
            · skip
              try simp only [decide_eq_true_eq, decide_eq_false_iff_not, Bool.not_eq_true', Bool.not_eq_false', beq_iff_eq, bne_iff_ne, beq_eq_false_iff_ne, Bool.and_eq_true, Bool.or_eq_true, Bool.and_eq_false_iff, Bool.or_eq_false_iff, ge_iff_le, gt_iff_lt, Int.not_lt, Int.not_le, ne_eq, Decidable.not_not, bne_eq_false_iff_eq] at hc13
              refine r0 ?_
              refine s1 54 202 1 rfl rfl rfl rfl rfl rfl trivial ?_
              refine s1 55 210 2 rfl rfl rfl rfl rfl rfl trivial ?_
              refine s1 56 218 3 rfl rfl rfl rfl rfl rfl trivial ?_
              refine s1 57 226 4 rfl rfl rfl rfl rfl rfl (by first | trivial | omega | (simp only [List.length_map, List.length_append, List.length_cons, List.length_nil] at *; omega)) ?_
              refine s1 58 234 5 rfl rfl rfl rfl rfl rfl trivial ?_
              refine s1 59 242 6 rfl rfl rfl rfl rfl rfl trivial ?_
              refine s1 60 250 7 rfl rfl rfl rfl rfl rfl ⟨Nat.le_refl _, trivial, (by show (_ + 1) * 16 ≤ 140737488355328; omega), (by simp only [maxLen]; omega)⟩ ?_
              refine s1 61 258 8 rfl rfl rfl rfl rfl rfl trivial ?_
              refine s1 62 266 9 rfl rfl rfl rfl rfl rfl trivial ?_
              refine s1 63 274 10 rfl rfl rfl rfl rfl rfl trivial ?_
              refine s1 64 282 11 rfl rfl rfl rfl rfl rfl ⟨Nat.le_refl _, trivial, (by show (_ + 1) * 32 ≤ 140737488355328; omega), (by simp only [maxLen]; omega)⟩ ?_
              refine s1 9 290 12 rfl rfl rfl rfl rfl rfl trivial ?_
              refine s1 10 298 13 rfl rfl rfl rfl rfl rfl trivial ?_
              refine e1 306 rfl ?_
              refine tn ?_
              have hp : (push1 (bk l w k) (flr (l.getD k default).t w) (l.getD k default).v) = ((bk l w k).1 ++ [⟨flr (l.getD k default).t w, (l.getD k default).v⟩], (bk l w k).2 ++ [⟨0, 0, 0, 0⟩]) := (by unfold push1; rw [if_pos (by unfold isNew; omega)])
              refine rowsc 250 (push1 (bk l w k) (flr (l.getD k default).t w) (l.getD k default).v).1.length (smpF (push1 (bk l w k) (flr (l.getD k default).t w) (l.getD k default).v).1) rfl (by rw [hp]; simp) (fun i c hi hc => by rw [hp]; exact cat_smp (s := ⟨flr (l.getD k default).t w, (l.getD k default).v⟩) i c hi hc) ?_
              refine cval 9 (.sl 250 0 (push1 (bk l w k) (flr (l.getD k default).t w) (l.getD k default).v).1.length) rfl (by rw [hp]; simp) ?_
              refine rowsc 282 (push1 (bk l w k) (flr (l.getD k default).t w) (l.getD k default).v).2.length (rollF (push1 (bk l w k) (flr (l.getD k default).t w) (l.getD k default).v).2) rfl (by rw [hp]; simp) (fun i c hi hc => by rw [hp]; exact cat_roll (r := ⟨0, 0, 0, 0⟩) i c hi hc) ?_
              refine cval 10 (.sl 282 0 (push1 (bk l w k) (flr (l.getD k default).t w) (l.getD k default).v).2.length) rfl (by rw [hp]; simp) ?_
              have hpl := push1_len (bk l w k) (flr (l.getD k default).t w) (l.getD k default).v hlk.1
              have hsr := getR_small (by omega) (push_small (f := flr (l.getD k default).t w) (v := (l.getD k default).v) (by omega) hsm) ((push1 (bk l w k) (flr (l.getD k default).t w) (l.getD k default).v).2.length - 1)
              obtain ⟨hr1, hr2, hr3, hr4⟩ := hsr
              refine r1 ?_
              refine s1 65 306 1 rfl rfl rfl rfl rfl rfl trivial ?_
              refine s1 66 314 2 rfl rfl rfl rfl rfl rfl trivial ?_
              refine s1 67 322 3 rfl rfl rfl rfl rfl rfl (by first | trivial | omega | (simp only [List.length_map, List.length_append, List.length_cons, List.length_nil] at *; omega)) ?_
              refine sA 68 330 4 rfl rfl rfl rfl rfl rfl rfl rfl rfl (by unfold inRange; omega) ?_
              refine s1 69 338 5 rfl rfl rfl rfl rfl rfl (by omega) ?_
              refine val 69 (.ptr 282 ((push1 (bk l w k) (flr (l.getD k default).t w) (l.getD k default).v).2.length - 1) 0) rfl (by rw [show (((push1 (bk l w k) (flr (l.getD k default).t w) (l.getD k default).v).2.length : Int) - 1).toNat = (push1 (bk l w k) (flr (l.getD k default).t w) (l.getD k default).v).2.length - 1 by omega, Nat.zero_add]) ?_
              refine s1 15 346 6 rfl rfl rfl rfl rfl rfl trivial ?_
              refine e1 354 rfl ?_
              refine keep [1, 9, 10, 12, 15, 30, 31, 32] rfl ?_
              refine rd0 rfl ?_
              refine d1 70 354 1 rfl rfl rfl rfl rfl rfl trivial ?_
              refine d1 71 362 2 rfl rfl rfl rfl rfl rfl trivial ?_
              refine d1 72 370 3 rfl rfl rfl rfl rfl rfl trivial ?_
              refine d1 73 378 4 rfl rfl rfl rfl rfl rfl (by omega) ?_
              refine val 73 (rollS ((push1 (bk l w k) (flr (l.getD k default).t w) (l.getD k default).v).2.getD ((push1 (bk l w k) (flr (l.getD k default).t w) (l.getD k default).v).2.length - 1) default)) rfl (by rfl) ?_
              refine d1 74 386 5 rfl rfl rfl rfl rfl rfl trivial ?_
              refine d1 75 394 6 rfl rfl rfl rfl rfl rfl (by first | trivial | omega | (simp only [List.length_map, List.length_append, List.length_cons, List.length_nil] at *; omega)) ?_
              refine dc1 (with_any ((push1 (bk l w k) (flr (l.getD k default).t w) (l.getD k default).v).2.getD ((push1 (bk l w k) (flr (l.getD k default).t w) (l.getD k default).v).2.length - 1) default) (l.getD k default).v ⟨by omega, by omega⟩ ⟨by omega, by omega⟩) [] [] 76 402 7 rfl rfl rfl rfl rfl rfl rfl rfl Tryd.func48 rfl rfl rfl rfl trivial rfl rfl ?_
              refine d1 77 410 8 rfl rfl rfl rfl rfl rfl trivial ?_
              refine d0 418 9 rfl rfl rfl rfl rfl (by omega) ?_
              refine de1 426 rfl (by kernel_rfl) ?_
              refine bn ?_
              refine tn ?_
              refine rowsc 282 (upd1 (push1 (bk l w k) (flr (l.getD k default).t w) (l.getD k default).v).2 (l.getD k default).v).length (rollF (upd1 (push1 (bk l w k) (flr (l.getD k default).t w) (l.getD k default).v).2 (l.getD k default).v)) rfl (by unfold upd1; rw [List.length_set]) (fun i c hi hc => set_roll i c hi hc) ?_
              refine cval 10 (.sl 282 0 (upd1 (push1 (bk l w k) (flr (l.getD k default).t w) (l.getD k default).v).2 (l.getD k default).v).length) rfl (by unfold upd1; rw [List.length_set]) ?_
              refine r0 ?_
              refine sA 78 426 1 rfl rfl rfl rfl rfl rfl rfl rfl rfl (by unfold inRange; omega) ?_
              refine s1 32 434 2 rfl rfl rfl rfl rfl rfl trivial ?_
              refine e1 442 rfl ?_
              refine tn ?_
              exact again ((k + 1 : Nat)) [250, 282] (show (k + 1) ≤ l.length from (by omega)) (show l.length - (k + 1) < l.length - k from (by omega)) rfl ⟨rfl, rfl, rfl, rfl, rfl, rfl, trivial⟩ ⟨rfl, rfl, trivial⟩
            · skip
              exact absurd hc13 (by decide)
          · skip
            try simp only [decide_eq_true_eq, decide_eq_false_iff_not, Bool.not_eq_true', Bool.not_eq_false', beq_iff_eq, bne_iff_ne, beq_eq_false_iff_ne, Bool.and_eq_true, Bool.or_eq_true, Bool.and_eq_false_iff, Bool.or_eq_false_iff, ge_iff_le, gt_iff_lt, Int.not_lt, Int.not_le, ne_eq, Decidable.not_not, bne_eq_false_iff_eq] at hg13_44
            refine g1 2 false 44 45 4 rfl rfl rfl rfl rfl ?_
            refine s1 45 130 4 rfl rfl rfl rfl rfl rfl trivial ?_
            refine g1 2 false 44 46 5 rfl rfl rfl rfl rfl ?_
            refine s1 46 138 5 rfl rfl rfl rfl rfl rfl trivial ?_
            refine g1 2 false 44 47 6 rfl rfl rfl rfl rfl ?_
            refine sA 47 146 6 rfl rfl rfl rfl rfl rfl rfl rfl rfl (by unfold inRange; omega) ?_
            refine g1 2 false 44 48 7 rfl rfl rfl rfl rfl ?_
            refine s1 48 154 7 rfl rfl rfl rfl rfl rfl (by omega) ?_
            refine g1 2 false 44 49 8 rfl rfl rfl rfl rfl ?_
            refine s1 49 162 8 rfl rfl rfl rfl rfl rfl trivial ?_
            refine g1 2 false 44 50 9 rfl rfl rfl rfl rfl ?_
            refine s1 50 170 9 rfl rfl rfl rfl rfl rfl (by omega) ?_
            refine val 50 (SV.i ((bk l w k).1.getD ((bk l w k).1.length - 1) default).t) rfl (by rw [show (((bk l w k).1.length : Int) - 1).toNat = (bk l w k).1.length - 1 by omega, Nat.zero_add]) ?_
            refine g1 2 false 44 51 10 rfl rfl rfl rfl rfl ?_
            refine s1 51 178 10 rfl rfl rfl rfl rfl rfl trivial ?_
            refine g1 2 false 44 52 11 rfl rfl rfl rfl rfl ?_
            refine s1 52 186 11 rfl rfl rfl rfl rfl rfl (by first | trivial | omega | (simp only [List.length_map, List.length_append, List.length_cons, List.length_nil] at *; omega)) ?_
            refine s1 53 194 12 rfl rfl rfl rfl rfl rfl trivial ?_
            refine e1 202 rfl ?_
            refine keep [1, 9, 10, 12, 13, 30, 31, 32, 53] rfl ?_
            refine q1 rfl (fun hc13 => ?_) (fun hc13 => ?_)
            · skip
              try simp only [decide_eq_true_eq, decide_eq_false_iff_not, Bool.not_eq_true', Bool.not_eq_false', beq_iff_eq, bne_iff_ne, beq_eq_false_iff_ne, Bool.and_eq_true, Bool.or_eq_true, Bool.and_eq_false_iff, Bool.or_eq_false_iff, ge_iff_le, gt_iff_lt, Int.not_lt, Int.not_le, ne_eq, Decidable.not_not, bne_eq_false_iff_eq] at hc13
              refine r0 ?_
              refine s1 54 202 1 rfl rfl rfl rfl rfl rfl trivial ?_
              refine s1 55 210 2 rfl rfl rfl rfl rfl rfl trivial ?_
              refine s1 56 218 3 rfl rfl rfl rfl rfl rfl trivial ?_
              refine s1 57 226 4 rfl rfl rfl rfl rfl rfl (by first | trivial | omega | (simp only [List.length_map, List.length_append, List.length_cons, List.length_nil] at *; omega)) ?_
              refine s1 58 234 5 rfl rfl rfl rfl rfl rfl trivial ?_
              refine s1 59 242 6 rfl rfl rfl rfl rfl rfl trivial ?_
              refine s1 60 250 7 rfl rfl rfl rfl rfl rfl ⟨Nat.le_refl _, trivial, (by show (_ + 1) * 16 ≤ 140737488355328; omega), (by simp only [maxLen]; omega)⟩ ?_
              refine s1 61 258 8 rfl rfl rfl rfl rfl rfl trivial ?_
              refine s1 62 266 9 rfl rfl rfl rfl rfl rfl trivial ?_
              refine s1 63 274 10 rfl rfl rfl rfl rfl rfl trivial ?_
              refine s1 64 282 11 rfl rfl rfl rfl rfl rfl ⟨Nat.le_refl _, trivial, (by show (_ + 1) * 32 ≤ 140737488355328; omega), (by simp only [maxLen]; omega)⟩ ?_
              refine s1 9 290 12 rfl rfl rfl rfl rfl rfl trivial ?_
              refine s1 10 298 13 rfl rfl rfl rfl rfl rfl trivial ?_
              refine e1 306 rfl ?_
              refine tn ?_
              have hp : (push1 (bk l w k) (flr (l.getD k default).t w) (l.getD k default).v) = ((bk l w k).1 ++ [⟨flr (l.getD k default).t w, (l.getD k default).v⟩], (bk l w k).2 ++ [⟨0, 0, 0, 0⟩]) := (by unfold push1; rw [if_pos (by unfold isNew; omega)])
              refine rowsc 250 (push1 (bk l w k) (flr (l.getD k default).t w) (l.getD k default).v).1.length (smpF (push1 (bk l w k) (flr (l.getD k default).t w) (l.getD k default).v).1) rfl (by rw [hp]; simp) (fun i c hi hc => by rw [hp]; exact cat_smp (s := ⟨flr (l.getD k default).t w, (l.getD k default).v⟩) i c hi hc) ?_
              refine cval 9 (.sl 250 0 (push1 (bk l w k) (flr (l.getD k default).t w) (l.getD k default).v).1.length) rfl (by rw [hp]; simp) ?_
              refine rowsc 282 (push1 (bk l w k) (flr (l.getD k default).t w) (l.getD k default).v).2.length (rollF (push1 (bk l w k) (flr (l.getD k default).t w) (l.getD k default).v).2) rfl (by rw [hp]; simp) (fun i c hi hc => by rw [hp]; exact cat_roll (r := ⟨0, 0, 0, 0⟩) i c hi hc) ?_
              refine cval 10 (.sl 282 0 (push1 (bk l w k) (flr (l.getD k default).t w) (l.getD k default).v).2.length) rfl (by rw [hp]; simp) ?_
              have hpl := push1_len (bk l w k) (flr (l.getD k default).t w) (l.getD k default).v hlk.1
              have hsr := getR_small (by omega) (push_small (f := flr (l.getD k default).t w) (v := (l.getD k default).v) (by omega) hsm) ((push1 (bk l w k) (flr (l.getD k default).t w) (l.getD k default).v).2.length - 1)
              obtain ⟨hr1, hr2, hr3, hr4⟩ := hsr
              refine r1 ?_
              refine s1 65 306 1 rfl rfl rfl rfl rfl rfl trivial ?_
              refine s1 66 314 2 rfl rfl rfl rfl rfl rfl trivial ?_
              refine s1 67 322 3 rfl rfl rfl rfl rfl rfl (by first | trivial | omega | (simp only [List.length_map, List.length_append, List.length_cons, List.length_nil] at *; omega)) ?_
              refine sA 68 330 4 rfl rfl rfl rfl rfl rfl rfl rfl rfl (by unfold inRange; omega) ?_
              refine s1 69 338 5 rfl rfl rfl rfl rfl rfl (by omega) ?_
              refine val 69 (.ptr 282 ((push1 (bk l w k) (flr (l.getD k default).t w) (l.getD k default).v).2.length - 1) 0) rfl (by rw [show (((push1 (bk l w k) (flr (l.getD k default).t w) (l.getD k default).v).2.length : Int) - 1).toNat = (push1 (bk l w k) (flr (l.getD k default).t w) (l.getD k default).v).2.length - 1 by omega, Nat.zero_add]) ?_
              refine s1 15 346 6 rfl rfl rfl rfl rfl rfl trivial ?_
              refine e1 354 rfl ?_
              refine keep [1, 9, 10, 12, 15, 30, 31, 32] rfl ?_
              refine rd0 rfl ?_
              refine d1 70 354 1 rfl rfl rfl rfl rfl rfl trivial ?_
              refine d1 71 362 2 rfl rfl rfl rfl rfl rfl trivial ?_
              refine d1 72 370 3 rfl rfl rfl rfl rfl rfl trivial ?_
              refine d1 73 378 4 rfl rfl rfl rfl rfl rfl (by omega) ?_
              refine val 73 (rollS ((push1 (bk l w k) (flr (l.getD k default).t w) (l.getD k default).v).2.getD ((push1 (bk l w k) (flr (l.getD k default).t w) (l.getD k default).v).2.length - 1) default)) rfl (by rfl) ?_
              refine d1 74 386 5 rfl rfl rfl rfl rfl rfl trivial ?_
              refine d1 75 394 6 rfl rfl rfl rfl rfl rfl (by first | trivial | omega | (simp only [List.length_map, List.length_append, List.length_cons, List.length_nil] at *; omega)) ?_
              refine dc1 (with_any ((push1 (bk l w k) (flr (l.getD k default).t w) (l.getD k default).v).2.getD ((push1 (bk l w k) (flr (l.getD k default).t w) (l.getD k default).v).2.length - 1) default) (l.getD k default).v ⟨by omega, by omega⟩ ⟨by omega, by omega⟩) [] [] 76 402 7 rfl rfl rfl rfl rfl rfl rfl rfl Tryd.func48 rfl rfl rfl rfl trivial rfl rfl ?_
              refine d1 77 410 8 rfl rfl rfl rfl rfl rfl trivial ?_
              refine d0 418 9 rfl rfl rfl rfl rfl (by omega) ?_
              refine de1 426 rfl (by kernel_rfl) ?_
              refine bn ?_
              refine tn ?_
              refine rowsc 282 (upd1 (push1 (bk l w k) (flr (l.getD k default).t w) (l.getD k default).v).2 (l.getD k default).v).length (rollF (upd1 (push1 (bk l w k) (flr (l.getD k default).t w) (l.getD k default).v).2 (l.getD k default).v)) rfl (by unfold upd1; rw [List.length_set]) (fun i c hi hc => set_roll i c hi hc) ?_
              refine cval 10 (.sl 282 0 (upd1 (push1 (bk l w k) (flr (l.getD k default).t w) (l.getD k default).v).2 (l.getD k default).v).length) rfl (by unfold upd1; rw [List.length_set]) ?_
              refine r0 ?_
              refine sA 78 426 1 rfl rfl rfl rfl rfl rfl rfl rfl rfl (by unfold inRange; omega) ?_
              refine s1 32 434 2 rfl rfl rfl rfl rfl rfl trivial ?_
              refine e1 442 rfl ?_
              refine tn ?_
              exact again ((k + 1 : Nat)) [250, 282] (show (k + 1) ≤ l.length from (by omega)) (show l.length - (k + 1) < l.length - k from (by omega)) rfl ⟨rfl, rfl, rfl, rfl, rfl, rfl, trivial⟩ ⟨rfl, rfl, trivial⟩
            · skip
              try simp only [decide_eq_true_eq, decide_eq_false_iff_not, Bool.not_eq_true', Bool.not_eq_false', beq_iff_eq, bne_iff_ne, beq_eq_false_iff_ne, Bool.and_eq_true, Bool.or_eq_true, Bool.and_eq_false_iff, Bool.or_eq_false_iff, ge_iff_le, gt_iff_lt, Int.not_lt, Int.not_le, ne_eq, Decidable.not_not, bne_eq_false_iff_eq] at hc13
              refine W_skip ?_
              refine tn ?_
              have hp : (push1 (bk l w k) (flr (l.getD k default).t w) (l.getD k default).v) = bk l w k := (by unfold push1; rw [if_neg (by unfold isNew; omega)])
              refine rowsc 0 (push1 (bk l w k) (flr (l.getD k default).t w) (l.getD k default).v).1.length (smpF (push1 (bk l w k) (flr (l.getD k default).t w) (l.getD k default).v).1) rfl (by rw [hp]) (fun i c hi hc => by rw [hp]) ?_
              refine cval 9 (.sl 0 0 (push1 (bk l w k) (flr (l.getD k default).t w) (l.getD k default).v).1.length) rfl (by rw [hp]) ?_
              refine rowsc 1 (push1 (bk l w k) (flr (l.getD k default).t w) (l.getD k default).v).2.length (rollF (push1 (bk l w k) (flr (l.getD k default).t w) (l.getD k default).v).2) rfl (by rw [hp]) (fun i c hi hc => by rw [hp]) ?_
              refine cval 10 (.sl 1 0 (push1 (bk l w k) (flr (l.getD k default).t w) (l.getD k default).v).2.length) rfl (by rw [hp]) ?_
              have hpl := push1_len (bk l w k) (flr (l.getD k default).t w) (l.getD k default).v hlk.1
              have hsr := getR_small (by omega) (push_small (f := flr (l.getD k default).t w) (v := (l.getD k default).v) (by omega) hsm) ((push1 (bk l w k) (flr (l.getD k default).t w) (l.getD k default).v).2.length - 1)
              obtain ⟨hr1, hr2, hr3, hr4⟩ := hsr
              refine r1 ?_
              refine s1 65 202 1 rfl rfl rfl rfl rfl rfl trivial ?_
              refine s1 66 210 2 rfl rfl rfl rfl rfl rfl trivial ?_
              refine s1 67 218 3 rfl rfl rfl rfl rfl rfl (by first | trivial | omega | (simp only [List.length_map, List.length_append, List.length_cons, List.length_nil] at *; omega)) ?_
              refine sA 68 226 4 rfl rfl rfl rfl rfl rfl rfl rfl rfl (by unfold inRange; omega) ?_
              refine s1 69 234 5 rfl rfl rfl rfl rfl rfl (by omega) ?_
              refine val 69 (.ptr 1 ((push1 (bk l w k) (flr (l.getD k default).t w) (l.getD k default).v).2.length - 1) 0) rfl (by rw [show (((push1 (bk l w k) (flr (l.getD k default).t w) (l.getD k default).v).2.length : Int) - 1).toNat = (push1 (bk l w k) (flr (l.getD k default).t w) (l.getD k default).v).2.length - 1 by omega, Nat.zero_add]) ?_
              refine s1 15 242 6 rfl rfl rfl rfl rfl rfl trivial ?_
              refine e1 250 rfl ?_
              refine keep [1, 9, 10, 12, 15, 30, 31, 32] rfl ?_
              refine rd0 rfl ?_
              refine d1 70 250 1 rfl rfl rfl rfl rfl rfl trivial ?_
              refine d1 71 258 2 rfl rfl rfl rfl rfl rfl trivial ?_
              refine d1 72 266 3 rfl rfl rfl rfl rfl rfl trivial ?_
              refine d1 73 274 4 rfl rfl rfl rfl rfl rfl (by omega) ?_
              refine val 73 (rollS ((push1 (bk l w k) (flr (l.getD k default).t w) (l.getD k default).v).2.getD ((push1 (bk l w k) (flr (l.getD k default).t w) (l.getD k default).v).2.length - 1) default)) rfl (by rfl) ?_
              refine d1 74 282 5 rfl rfl rfl rfl rfl rfl trivial ?_
              refine d1 75 290 6 rfl rfl rfl rfl rfl rfl (by first | trivial | omega | (simp only [List.length_map, List.length_append, List.length_cons, List.length_nil] at *; omega)) ?_
              refine dc1 (with_any ((push1 (bk l w k) (flr (l.getD k default).t w) (l.getD k default).v).2.getD ((push1 (bk l w k) (flr (l.getD k default).t w) (l.getD k default).v).2.length - 1) default) (l.getD k default).v ⟨by omega, by omega⟩ ⟨by omega, by omega⟩) [] [] 76 298 7 rfl rfl rfl rfl rfl rfl rfl rfl Tryd.func48 rfl rfl rfl rfl trivial rfl rfl ?_
              refine d1 77 306 8 rfl rfl rfl rfl rfl rfl trivial ?_
              refine d0 314 9 rfl rfl rfl rfl rfl (by omega) ?_
              refine de1 322 rfl (by kernel_rfl) ?_
              refine bn ?_
              refine tn ?_
              refine rowsc 1 (upd1 (push1 (bk l w k) (flr (l.getD k default).t w) (l.getD k default).v).2 (l.getD k default).v).length (rollF (upd1 (push1 (bk l w k) (flr (l.getD k default).t w) (l.getD k default).v).2 (l.getD k default).v)) rfl (by unfold upd1; rw [List.length_set]) (fun i c hi hc => set_roll i c hi hc) ?_
              refine cval 10 (.sl 1 0 (upd1 (push1 (bk l w k) (flr (l.getD k default).t w) (l.getD k default).v).2 (l.getD k default).v).length) rfl (by unfold upd1; rw [List.length_set]) ?_
              refine r0 ?_
              refine sA 78 322 1 rfl rfl rfl rfl rfl rfl rfl rfl rfl (by unfold inRange; omega) ?_
              refine s1 32 330 2 rfl rfl rfl rfl rfl rfl trivial ?_
              refine e1 338 rfl ?_
              refine tn ?_
              exact again ((k + 1 : Nat)) [0, 1] (show (k + 1) ≤ l.length from (by omega)) (show l.length - (k + 1) < l.length - k from (by omega)) rfl ⟨rfl, rfl, rfl, rfl, rfl, rfl, trivial⟩ ⟨rfl, rfl, trivial⟩
        · skip
          try simp only [decide_eq_true_eq, decide_eq_false_iff_not, Bool.not_eq_true', Bool.not_eq_false', beq_iff_eq, bne_iff_ne, beq_eq_false_iff_ne, Bool.and_eq_true, Bool.or_eq_true, Bool.and_eq_false_iff, Bool.or_eq_false_iff, ge_iff_le, gt_iff_lt, Int.not_lt, Int.not_le, ne_eq, Decidable.not_not, bne_eq_false_iff_eq] at hc9
          refine W_exit ?_
          refine tx ?_
          refine tx ?_
          refine bx ?_
          refine tn ?_
          refine W_seq ?_
          obtain rfl : k = l.length := (by omega)
          refine r1 ?_
          refine s1 79 10 1 rfl rfl rfl rfl rfl rfl trivial ?_
          refine s1 80 18 2 rfl rfl rfl rfl rfl rfl (by first | trivial | omega | (simp only [List.length_map, List.length_append, List.length_cons, List.length_nil] at *; omega)) ?_
          refine s1 81 26 3 rfl rfl rfl rfl rfl rfl (by first | trivial | omega | (simp only [List.length_map, List.length_append, List.length_cons, List.length_nil] at *; omega)) ?_
          refine e1 34 rfl ?_
          refine keep [9, 10, 81] rfl ?_
          refine q1 rfl (fun hc18 => ?_) (fun hc18 => ?_)
          · skip
            exfalso; simp at hc18; omega
          · skip
            try simp only [decide_eq_true_eq, decide_eq_false_iff_not, Bool.not_eq_true', Bool.not_eq_false', beq_iff_eq, bne_iff_ne, beq_eq_false_iff_ne, Bool.and_eq_true, Bool.or_eq_true, Bool.and_eq_false_iff, Bool.or_eq_false_iff, ge_iff_le, gt_iff_lt, Int.not_lt, Int.not_le, ne_eq, Decidable.not_not, bne_eq_false_iff_eq] at hc18
            refine W_skip ?_
            refine tn ?_
            refine r1 ?_
            refine s1 82 34 1 rfl rfl rfl rfl rfl rfl trivial ?_
            refine s1 83 42 2 rfl rfl rfl rfl rfl rfl trivial ?_
            refine s1 4 50 3 rfl rfl rfl rfl rfl rfl trivial ?_
            refine s1 5 58 4 rfl rfl rfl rfl rfl rfl trivial ?_
            refine s1 6 66 5 rfl rfl rfl rfl rfl rfl trivial ?_
            refine e1 74 rfl ?_
            refine keep [4, 5, 6] rfl ?_
            refine W_ret ?_
            exact out3 4 5 6 (.sl 0 0 (bk l w l.length).1.length) (.sl 1 0 (bk l w l.length).2.length) (SV.i 0) (π := [0, 1]) (hout := [some (.rows 49 2 (bk l w l.length).1.length (smpF (bk l w l.length).1)), some (.rows 34 4 (bk l w l.length).2.length (rollF (bk l w l.length).2))]) Tryd.results18 rfl rfl rfl rfl rfl rfl rfl rfl ⟨rfl, rfl, trivial⟩ ⟨rfl, rfl⟩

theorem buck_full (l : List Smp) (hin : SmpIn l) (w : Int) (hwi : inRange w) (hw : 1 ≤ w ∧ w ≤ 1048576) (hz : sfault l = 0) (hn : 100 < (bk l w l.length).1.length) : Spec Tryd.prog GC 18 [smpV l, SV.i w] [] (fun r ho => r = SV.tup [.d .nils, .d .nils, SV.i (bucE l w)] ∧ ho = []) := by
  have hp0 := sf_parts hz
  have hv := samp_in hz
  refine start 84 0 Tryd.func18 rfl rfl rfl rfl ?_
  refine r1 ?_
  refine s1 4 0 1 rfl rfl rfl rfl rfl rfl trivial ?_
  refine s1 5 8 2 rfl rfl rfl rfl rfl rfl trivial ?_
  refine s1 6 16 3 rfl rfl rfl rfl rfl rfl trivial ?_
  refine e1 24 rfl ?_
  refine keep [0, 1] rfl ?_
  refine W_seq ?_
  refine r1 ?_
  refine s1 16 24 1 rfl rfl rfl rfl rfl rfl trivial ?_
  refine s1 17 32 2 rfl rfl rfl rfl rfl rfl (by first | trivial | omega | (simp only [List.length_map, List.length_append, List.length_cons, List.length_nil] at *; omega)) ?_
  refine s1 18 40 3 rfl rfl rfl rfl rfl rfl trivial ?_
  refine ask 18 rfl (fun hg1_18 => ?_) (fun hg1_18 => ?_)
  · skip
    try simp only [decide_eq_true_eq, decide_eq_false_iff_not, Bool.not_eq_true', Bool.not_eq_false', beq_iff_eq, bne_iff_ne, beq_eq_false_iff_ne, Bool.and_eq_true, Bool.or_eq_true, Bool.and_eq_false_iff, Bool.or_eq_false_iff, ge_iff_le, gt_iff_lt, Int.not_lt, Int.not_le, ne_eq, Decidable.not_not, bne_eq_false_iff_eq] at hg1_18
    refine g0 2 false 18 19 4 rfl rfl rfl rfl rfl rfl ?_
    refine g0 2 false 18 20 5 rfl rfl rfl rfl rfl rfl ?_
    refine s1 21 64 6 rfl rfl rfl rfl rfl rfl trivial ?_
    refine e1 72 rfl ?_
    refine keep [0, 1, 21] rfl ?_
    refine q1 rfl (fun hc1 => ?_) (fun hc1 => ?_)
    · skip
      exfalso; simp at hc1; omega
    · skip
      exact absurd hc1 (by decide)
  · skip
    try simp only [decide_eq_true_eq, decide_eq_false_iff_not, Bool.not_eq_true', Bool.not_eq_false', beq_iff_eq, bne_iff_ne, beq_eq_false_iff_ne, Bool.and_eq_true, Bool.or_eq_true, Bool.and_eq_false_iff, Bool.or_eq_false_iff, ge_iff_le, gt_iff_lt, Int.not_lt, Int.not_le, ne_eq, Decidable.not_not, bne_eq_false_iff_eq] at hg1_18
    refine g1 2 false 18 19 4 rfl rfl rfl rfl rfl ?_
    refine s1 19 48 4 rfl rfl rfl rfl rfl rfl trivial ?_
    refine g1 2 false 18 20 5 rfl rfl rfl rfl rfl ?_
    refine s1 20 56 5 rfl rfl rfl rfl rfl rfl (by first | trivial | omega | (simp only [List.length_map, List.length_append, List.length_cons, List.length_nil] at *; omega)) ?_
    refine s1 21 64 6 rfl rfl rfl rfl rfl rfl trivial ?_
    refine e1 72 rfl ?_
    refine keep [0, 1, 21] rfl ?_
    refine q1 rfl (fun hc1 => ?_) (fun hc1 => ?_)
    · skip
      exfalso; simp at hc1; omega
    · skip
      try simp only [decide_eq_true_eq, decide_eq_false_iff_not, Bool.not_eq_true', Bool.not_eq_false', beq_iff_eq, bne_iff_ne, beq_eq_false_iff_ne, Bool.and_eq_true, Bool.or_eq_true, Bool.and_eq_false_iff, Bool.or_eq_false_iff, ge_iff_le, gt_iff_lt, Int.not_lt, Int.not_le, ne_eq, Decidable.not_not, bne_eq_false_iff_eq] at hc1
      refine W_skip ?_
      refine tn ?_
      refine W_seq ?_
      refine r1 ?_
      refine s1 23 72 1 rfl rfl rfl rfl rfl rfl trivial ?_
      refine c1 (encode_ok l hin hz) [] [80] 24 80 2 rfl rfl rfl rfl rfl rfl rfl rfl Tryd.func10 rfl rfl rfl rfl trivial rfl rfl ?_
      refine s1 22 88 3 rfl rfl rfl rfl rfl rfl trivial ?_
      refine s1 25 96 4 rfl rfl rfl rfl rfl rfl trivial ?_
      refine s1 26 104 5 rfl rfl rfl rfl rfl rfl trivial ?_
      refine s1 7 112 6 rfl rfl rfl rfl rfl rfl trivial ?_
      refine s1 8 120 7 rfl rfl rfl rfl rfl rfl trivial ?_
      refine e1 128 rfl ?_
      refine keep [0, 1, 8] rfl ?_
      refine r1 ?_
      refine s1 27 128 1 rfl rfl rfl rfl rfl rfl trivial ?_
      refine s1 28 136 2 rfl rfl rfl rfl rfl rfl (by first | trivial | omega | (simp only [List.length_map, List.length_append, List.length_cons, List.length_nil] at *; omega)) ?_
      refine e1 144 rfl ?_
      refine keep [0, 1, 8, 28] rfl ?_
      refine q1 rfl (fun hc4 => ?_) (fun hc4 => ?_)
      · skip
        exact absurd hc4 (by decide)
      · skip
        try simp only [decide_eq_true_eq, decide_eq_false_iff_not, Bool.not_eq_true', Bool.not_eq_false', beq_iff_eq, bne_iff_ne, beq_eq_false_iff_ne, Bool.and_eq_true, Bool.or_eq_true, Bool.and_eq_false_iff, Bool.or_eq_false_iff, ge_iff_le, gt_iff_lt, Int.not_lt, Int.not_le, ne_eq, Decidable.not_not, bne_eq_false_iff_eq] at hc4
        refine W_skip ?_
        refine tn ?_
        refine r1 ?_
        refine s1 9 144 1 rfl rfl rfl rfl rfl rfl trivial ?_
        refine e1 152 rfl ?_
        refine keep [0, 1, 9] rfl ?_
        refine r1 ?_
        refine s1 10 152 1 rfl rfl rfl rfl rfl rfl trivial ?_
        refine e1 160 rfl ?_
        refine keep [0, 1, 9, 10] rfl ?_
        refine W_seq ?_
        refine r1 ?_
        refine s1 30 160 1 rfl rfl rfl rfl rfl rfl trivial ?_
        refine s1 31 168 2 rfl rfl rfl rfl rfl rfl (by first | trivial | omega | (simp only [List.length_map, List.length_append, List.length_cons, List.length_nil] at *; omega)) ?_
        refine s1 32 176 3 rfl rfl rfl rfl rfl rfl trivial ?_
        refine e1 184 rfl ?_
        refine keep [1, 9, 10, 30, 31, 32] rfl ?_
        refine W_block ?_
        refine ghostly 9 49 2 (smpF []) rfl ?_
        refine ghostly 10 34 4 (rollF []) rfl ?_
        refine loop (α := Nat) 2 (fun k => [(1, SV.i w), (9, .sl 0 0 (bk l w (k)).1.length), (10, .sl 1 0 (bk l w (k)).2.length), (30, smpV l), (31, SV.i l.length), (32, SV.i (k))]) (fun k => [some (.rows 49 2 (bk l w (k)).1.length (smpF (bk l w (k)).1)), some (.rows 34 4 (bk l w (k)).2.length (rollF (bk l w (k)).2))]) (fun k => (k) ≤ l.length) (fun k => l.length - (k)) (((0) : Nat)) [184, 192] (fun _ => rfl) (show (0) ≤ l.length from (Nat.zero_le _)) rfl ⟨rfl, rfl, rfl, rfl, rfl, rfl, trivial⟩ ⟨rfl, rfl, trivial⟩ (fun k hx => ?_)
        show W _ _ _ ⟨tOf [(1, SV.i w), (9, .sl 0 0 (bk l w k).1.length), (10, .sl 1 0 (bk l w k).2.length), (30, smpV l), (31, SV.i l.length), (32, SV.i k)], hOf [some (.rows 49 2 (bk l w k).1.length (smpF (bk l w k).1)), some (.rows 34 4 (bk l w k).2.length (rollF (bk l w k).2))], 2⟩
        have hx : k ≤ l.length := hx
        have hlk := bk_len l w k
        have hsm := bk_small (fun j hj => (hv j hj).2) w k hx
        refine r1 ?_
        refine s1 33 2 1 rfl rfl rfl rfl rfl rfl (by first | trivial | omega | (simp only [List.length_map, List.length_append, List.length_cons, List.length_nil] at *; omega)) ?_
        refine e1 10 rfl ?_
        refine keep [1, 9, 10, 30, 31, 32, 33] rfl ?_
        refine W_seq ?_
        refine q1 rfl (fun hc9 => ?_) (fun hc9 => ?_)
        · skip
          try simp only [decide_eq_true_eq, decide_eq_false_iff_not, Bool.not_eq_true', Bool.not_eq_false', beq_iff_eq, bne_iff_ne, beq_eq_false_iff_ne, Bool.and_eq_true, Bool.or_eq_true, Bool.and_eq_false_iff, Bool.or_eq_false_iff, ge_iff_le, gt_iff_lt, Int.not_lt, Int.not_le, ne_eq, Decidable.not_not, bne_eq_false_iff_eq] at hc9
          have hvk := hv k (by omega)
          have hg := hvk.2
          obtain ⟨hv1, hv2⟩ := hg
          refine W_skip ?_
          refine tn ?_
          refine W_seq ?_
          refine W_block ?_
          refine r1 ?_
          refine s1 34 10 1 rfl rfl rfl rfl rfl rfl (by first | trivial | omega | (simp only [List.length_map, List.length_append, List.length_cons, List.length_nil] at *; omega)) ?_
          refine s1 35 18 2 rfl rfl rfl rfl rfl rfl (by first | trivial | omega | (simp only [List.length_map, List.length_append, List.length_cons, List.length_nil] at *; omega)) ?_
          refine val 35 (smpS (l.getD k default)) rfl (by first | rfl | (simp only [Nat.zero_add, Int.toNat_natCast]; rfl)) ?_
          refine s1 12 26 3 rfl rfl rfl rfl rfl rfl trivial ?_
          refine s0 34 4 rfl rfl rfl rfl rfl (by first | trivial | omega | (simp only [List.length_map, List.length_append, List.length_cons, List.length_nil] at *; omega)) ?_
          refine e1 42 rfl ?_
          refine keep [1, 9, 10, 12, 30, 31, 32] rfl ?_
          refine r1 ?_
          refine s1 36 42 1 rfl rfl rfl rfl rfl rfl trivial ?_
          refine s1 37 50 2 rfl rfl rfl rfl rfl rfl (by first | trivial | omega | (simp only [List.length_map, List.length_append, List.length_cons, List.length_nil] at *; omega)) ?_
          refine s1 38 58 3 rfl rfl rfl rfl rfl rfl trivial ?_
          refine c1 (floor_any (l.getD k default).t w hvk.1 hw.1 hw.2) [] [] 39 66 4 rfl rfl rfl rfl rfl rfl rfl rfl Tryd.func47 rfl rfl rfl rfl trivial rfl rfl ?_
          refine s1 13 74 5 rfl rfl rfl rfl rfl rfl trivial ?_
          refine e1 82 rfl ?_
          refine keep [1, 9, 10, 12, 13, 30, 31, 32] rfl ?_
          refine W_seq ?_
          refine r1 ?_
          refine s1 40 82 1 rfl rfl rfl rfl rfl rfl trivial ?_
          refine s1 41 90 2 rfl rfl rfl rfl rfl rfl (by first | trivial | omega | (simp only [List.length_map, List.length_append, List.length_cons, List.length_nil] at *; omega)) ?_
          refine s1 14 98 3 rfl rfl rfl rfl rfl rfl trivial ?_
          refine e1 106 rfl ?_
          refine keep [1, 9, 10, 12, 13, 14, 30, 31, 32] rfl ?_
          refine r1 ?_
          refine s1 42 106 1 rfl rfl rfl rfl rfl rfl trivial ?_
          refine s1 43 114 2 rfl rfl rfl rfl rfl rfl (by first | trivial | omega | (simp only [List.length_map, List.length_append, List.length_cons, List.length_nil] at *; omega)) ?_
          refine s1 44 122 3 rfl rfl rfl rfl rfl rfl trivial ?_
          refine ask 44 rfl (fun hg13_44 => ?_) (fun hg13_44 => ?_)
          · skip
            try simp only [decide_eq_true_eq, decide_eq_false_iff_not, Bool.not_eq_true', Bool.not_eq_false', beq_iff_eq, bne_iff_ne, beq_eq_false_iff_ne, Bool.and_eq_true, Bool.or_eq_true, Bool.and_eq_false_iff, Bool.or_eq_false_iff, ge_iff_le, gt_iff_lt, Int.not_lt, Int.not_le, ne_eq, Decidable.not_not, bne_eq_false_iff_eq] at hg13_44
            refine g0 2 false 44 45 4 rfl rfl rfl rfl rfl rfl ?_
            refine g0 2 false 44 46 5 rfl rfl rfl rfl rfl rfl ?_
            refine g0 2 false 44 47 6 rfl rfl rfl rfl rfl rfl ?_
            refine g0 2 false 44 48 7 rfl rfl rfl rfl rfl rfl ?_
            refine g0 2 false 44 49 8 rfl rfl rfl rfl rfl rfl ?_
            refine g0 2 false 44 50 9 rfl rfl rfl rfl rfl rfl ?_
            refine g0 2 false 44 51 10 rfl rfl rfl rfl rfl rfl ?_
            refine g0 2 false 44 52 11 rfl rfl rfl rfl rfl rfl ?_
            refine s1 53 194 12 rfl rfl rfl rfl rfl rfl trivial ?_
            refine e1 202 rfl ?_
            refine keep [1, 9, 10, 12, 13, 30, 31, 32, 53] rfl ?_
            refine q1 rfl (fun hc13 => ?_) (fun hc13 => ?_)
            · skip
              try simp only [decide_eq_true_eq, decide_eq_false_iff_not, Bool.not_eq_true', Bool.not_eq_false', beq_iff_eq, bne_iff_ne, beq_eq_false_iff_ne, Bool.and_eq_true, Bool.or_eq_true, Bool.and_eq_false_iff, Bool.or_eq_false_iff, ge_iff_le, gt_iff_lt, Int.not_lt, Int.not_le, ne_eq, Decidable.not_not, bne_eq_false_iff_eq] at hc13
              refine r0 ?_
              refine s1 54 202 1 rfl rfl rfl rfl rfl rfl trivial ?_
              refine s1 55 210 2 rfl rfl rfl rfl rfl rfl trivial ?_
              refine s1 56 218 3 rfl rfl rfl rfl rfl rfl trivial ?_
              refine s1 57 226 4 rfl rfl rfl rfl rfl rfl (by first | trivial | omega | (simp only [List.length_map, List.length_append, List.length_cons, List.length_nil] at *; omega)) ?_
              refine s1 58 234 5 rfl rfl rfl rfl rfl rfl trivial ?_
              refine s1 59 242 6 rfl rfl rfl rfl rfl rfl trivial ?_
              refine s1 60 250 7 rfl rfl rfl rfl rfl rfl ⟨Nat.le_refl _, trivial, (by show (_ + 1) * 16 ≤ 140737488355328; omega), (by simp only [maxLen]; omega)⟩ ?_
              refine s1 61 258 8 rfl rfl rfl rfl rfl rfl trivial ?_
              refine s1 62 266 9 rfl rfl rfl rfl rfl rfl trivial ?_
              refine s1 63 274 10 rfl rfl rfl rfl rfl rfl trivial ?_
              refine s1 64 282 11 rfl rfl rfl rfl rfl rfl ⟨Nat.le_refl _, trivial, (by show (_ + 1) * 32 ≤ 140737488355328; omega), (by simp only [maxLen]; omega)⟩ ?_
              refine s1 9 290 12 rfl rfl rfl rfl rfl rfl trivial ?_
              refine s1 10 298 13 rfl rfl rfl rfl rfl rfl trivial ?_
              refine e1 306 rfl ?_
              refine tn ?_
              have hp : (push1 (bk l w k) (flr (l.getD k default).t w) (l.getD k default).v) = ((bk l w k).1 ++ [⟨flr (l.getD k default).t w, (l.getD k default).v⟩], (bk l w k).2 ++ [⟨0, 0, 0, 0⟩]) := (by unfold push1; rw [if_pos (by unfold isNew; omega)])
              refine rowsc 250 (push1 (bk l w k) (flr (l.getD k default).t w) (l.getD k default).v).1.length (smpF (push1 (bk l w k) (flr (l.getD k default).t w) (l.getD k default).v).1) rfl (by rw [hp]; simp) (fun i c hi hc => by rw [hp]; exact cat_smp (s := ⟨flr (l.getD k default).t w, (l.getD k default).v⟩) i c hi hc) ?_
              refine cval 9 (.sl 250 0 (push1 (bk l w k) (flr (l.getD k default).t w) (l.getD k default).v).1.length) rfl (by rw [hp]; simp) ?_
              refine rowsc 282 (push1 (bk l w k) (flr (l.getD k default).t w) (l.getD k default).v).2.length (rollF (push1 (bk l w k) (flr (l.getD k default).t w) (l.getD k default).v).2) rfl (by rw [hp]; simp) (fun i c hi hc => by rw [hp]; exact cat_roll (r := ⟨0, 0, 0, 0⟩) i c hi hc) ?_
              refine cval 10 (.sl 282 0 (push1 (bk l w k) (flr (l.getD k default).t w) (l.getD k default).v).2.length) rfl (by rw [hp]; simp) ?_
              have hpl := push1_len (bk l w k) (flr (l.getD k default).t w) (l.getD k default).v hlk.1
              have hsr := getR_small (by omega) (push_small (f := flr (l.getD k default).t w) (v := (l.getD k default).v) (by omega) hsm) ((push1 (bk l w k) (flr (l.getD k default).t w) (l.getD k default).v).2.length - 1)
              obtain ⟨hr1, hr2, hr3, hr4⟩ := hsr
              refine r1 ?_
              refine s1 65 306 1 rfl rfl rfl rfl rfl rfl trivial ?_
              refine s1 66 314 2 rfl rfl rfl rfl rfl rfl trivial ?_
              refine s1 67 322 3 rfl rfl rfl rfl rfl rfl (by first | trivial | omega | (simp only [List.length_map, List.length_append, List.length_cons, List.length_nil] at *; omega)) ?_
              refine sA 68 330 4 rfl rfl rfl rfl rfl rfl rfl rfl rfl (by unfold inRange; omega) ?_
              refine s1 69 338 5 rfl rfl rfl rfl rfl rfl (by omega) ?_
              refine val 69 (.ptr 282 ((push1 (bk l w k) (flr (l.getD k default).t w) (l.getD k default).v).2.length - 1) 0) rfl (by rw [show (((push1 (bk l w k) (flr (l.getD k default).t w) (l.getD k default).v).2.length : Int) - 1).toNat = (push1 (bk l w k) (flr (l.getD k default).t w) (l.getD k default).v).2.length - 1 by omega, Nat.zero_add]) ?_
              refine s1 15 346 6 rfl rfl rfl rfl rfl rfl trivial ?_
              refine e1 354 rfl ?_
              refine keep [1, 9, 10, 12, 15, 30, 31, 32] rfl ?_
              refine rd0 rfl ?_
              refine d1 70 354 1 rfl rfl rfl rfl rfl rfl trivial ?_
              refine d1 71 362 2 rfl rfl rfl rfl rfl rfl trivial ?_
              refine d1 72 370 3 rfl rfl rfl rfl rfl rfl trivial ?_
              refine d1 73 378 4 rfl rfl rfl rfl rfl rfl (by omega) ?_
              refine val 73 (rollS ((push1 (bk l w k) (flr (l.getD k default).t w) (l.getD k default).v).2.getD ((push1 (bk l w k) (flr (l.getD k default).t w) (l.getD k default).v).2.length - 1) default)) rfl (by rfl) ?_
              refine d1 74 386 5 rfl rfl rfl rfl rfl rfl trivial ?_
              refine d1 75 394 6 rfl rfl rfl rfl rfl rfl (by first | trivial | omega | (simp only [List.length_map, List.length_append, List.length_cons, List.length_nil] at *; omega)) ?_
              refine dc1 (with_any ((push1 (bk l w k) (flr (l.getD k default).t w) (l.getD k default).v).2.getD ((push1 (bk l w k) (flr (l.getD k default).t w) (l.getD k default).v).2.length - 1) default) (l.getD k default).v ⟨by omega, by omega⟩ ⟨by omega, by omega⟩) [] [] 76 402 7 rfl rfl rfl rfl rfl rfl rfl rfl Tryd.func48 rfl rfl rfl rfl trivial rfl rfl ?_
              refine d1 77 410 8 rfl rfl rfl rfl rfl rfl trivial ?_
              refine d0 418 9 rfl rfl rfl rfl rfl (by omega) ?_
              refine de1 426 rfl (by kernel_rfl) ?_
              refine bn ?_
              refine tn ?_
              refine rowsc 282 (upd1 (push1 (bk l w k) (flr (l.getD k default).t w) (l.getD k default).v).2 (l.getD k default).v).length (rollF (upd1 (push1 (bk l w k) (flr (l.getD k default).t w) (l.getD k default).v).2 (l.getD k default).v)) rfl (by unfold upd1; rw [List.length_set]) (fun i c hi hc => set_roll i c hi hc) ?_
              refine cval 10 (.sl 282 0 (upd1 (push1 (bk l w k) (flr (l.getD k default).t w) (l.getD k default).v).2 (l.getD k default).v).length) rfl (by unfold upd1; rw [List.length_set]) ?_
              refine r0 ?_
              refine sA 78 426 1 rfl rfl rfl rfl rfl rfl rfl rfl rfl (by unfold inRange; omega) ?_
              refine s1 32 434 2 rfl rfl rfl rfl rfl rfl trivial ?_
              refine e1 442 rfl ?_
              refine tn ?_
              exact again ((k + 1 : Nat)) [250, 282] (show (k + 1) ≤ l.length from (by omega)) (show l.length - (k + 1) < l.length - k from (by omega)) rfl ⟨rfl, rfl, rfl, rfl, rfl, rfl, trivial⟩ ⟨rfl, rfl, trivial⟩
            · skip
              exact absurd hc13 (by decide)
          · skip
            try simp only [decide_eq_true_eq, decide_eq_false_iff_not, Bool.not_eq_true', Bool.not_eq_false', beq_iff_eq, bne_iff_ne, beq_eq_false_iff_ne, Bool.and_eq_true, Bool.or_eq_true, Bool.and_eq_false_iff, Bool.or_eq_false_iff, ge_iff_le, gt_iff_lt, Int.not_lt, Int.not_le, ne_eq, Decidable.not_not, bne_eq_false_iff_eq] at hg13_44
            refine g1 2 false 44 45 4 rfl rfl rfl rfl rfl ?_
            refine s1 45 130 4 rfl rfl rfl rfl rfl rfl trivial ?_
            refine g1 2 false 44 46 5 rfl rfl rfl rfl rfl ?_
            refine s1 46 138 5 rfl rfl rfl rfl rfl rfl trivial ?_
            refine g1 2 false 44 47 6 rfl rfl rfl rfl rfl ?_
            refine sA 47 146 6 rfl rfl rfl rfl rfl rfl rfl rfl rfl (by unfold inRange; omega) ?_
            refine g1 2 false 44 48 7 rfl rfl rfl rfl rfl ?_
            refine s1 48 154 7 rfl rfl rfl rfl rfl rfl (by omega) ?_
            refine g1 2 false 44 49 8 rfl rfl rfl rfl rfl ?_
            refine s1 49 162 8 rfl rfl rfl rfl rfl rfl trivial ?_
            refine g1 2 false 44 50 9 rfl rfl rfl rfl rfl ?_
            refine s1 50 170 9 rfl rfl rfl rfl rfl rfl (by omega) ?_
            refine val 50 (SV.i ((bk l w k).1.getD ((bk l w k).1.length - 1) default).t) rfl (by rw [show (((bk l w k).1.length : Int) - 1).toNat = (bk l w k).1.length - 1 by omega, Nat.zero_add]) ?_
            refine g1 2 false 44 51 10 rfl rfl rfl rfl rfl ?_
            refine s1 51 178 10 rfl rfl rfl rfl rfl rfl trivial ?_
            refine g1 2 false 44 52 11 rfl rfl rfl rfl rfl ?_
            refine s1 52 186 11 rfl rfl rfl rfl rfl rfl (by first | trivial | omega | (simp only [List.length_map, List.length_append, List.length_cons, List.length_nil] at *; omega)) ?_
            refine s1 53 194 12 rfl rfl rfl rfl rfl rfl trivial ?_
            refine e1 202 rfl ?_
            refine keep [1, 9, 10, 12, 13, 30, 31, 32, 53] rfl ?_
            refine q1 rfl (fun hc13 => ?_) (fun hc13 => ?_)
            · skip
              try simp only [decide_eq_true_eq, decide_eq_false_iff_not, Bool.not_eq_true', Bool.not_eq_false', beq_iff_eq, bne_iff_ne, beq_eq_false_iff_ne, Bool.and_eq_true, Bool.or_eq_true, Bool.and_eq_false_iff, Bool.or_eq_false_iff, ge_iff_le, gt_iff_lt, Int.not_lt, Int.not_le, ne_eq, Decidable.not_not, bne_eq_false_iff_eq] at hc13
              refine r0 ?_
              refine s1 54 202 1 rfl rfl rfl rfl rfl rfl trivial ?_
              refine s1 55 210 2 rfl rfl rfl rfl rfl rfl trivial ?_
              refine s1 56 218 3 rfl rfl rfl rfl rfl rfl trivial ?_
              refine s1 57 226 4 rfl rfl rfl rfl rfl rfl (by first | trivial | omega | (simp only [List.length_map, List.length_append, List.length_cons, List.length_nil] at *; omega)) ?_
              refine s1 58 234 5 rfl rfl rfl rfl rfl rfl trivial ?_
              refine s1 59 242 6 rfl rfl rfl rfl rfl rfl trivial ?_
              refine s1 60 250 7 rfl rfl rfl rfl rfl rfl ⟨Nat.le_refl _, trivial, (by show (_ + 1) * 16 ≤ 140737488355328; omega), (by simp only [maxLen]; omega)⟩ ?_
              refine s1 61 258 8 rfl rfl rfl rfl rfl rfl trivial ?_
              refine s1 62 266 9 rfl rfl rfl rfl rfl rfl trivial ?_
              refine s1 63 274 10 rfl rfl rfl rfl rfl rfl trivial ?_
              refine s1 64 282 11 rfl rfl rfl rfl rfl rfl ⟨Nat.le_refl _, trivial, (by show (_ + 1) * 32 ≤ 140737488355328; omega), (by simp only [maxLen]; omega)⟩ ?_
              refine s1 9 290 12 rfl rfl rfl rfl rfl rfl trivial ?_
              refine s1 10 298 13 rfl rfl rfl rfl rfl rfl trivial ?_
              refine e1 306 rfl ?_
              refine tn ?_
              have hp : (push1 (bk l w k) (flr (l.getD k default).t w) (l.getD k default).v) = ((bk l w k).1 ++ [⟨flr (l.getD k default).t w, (l.getD k default).v⟩], (bk l w k).2 ++ [⟨0, 0, 0, 0⟩]) := (by unfold push1; rw [if_pos (by unfold isNew; omega)])
              refine rowsc 250 (push1 (bk l w k) (flr (l.getD k default).t w) (l.getD k default).v).1.length (smpF (push1 (bk l w k) (flr (l.getD k default).t w) (l.getD k default).v).1) rfl (by rw [hp]; simp) (fun i c hi hc => by rw [hp]; exact cat_smp (s := ⟨flr (l.getD k default).t w, (l.getD k default).v⟩) i c hi hc) ?_
              refine cval 9 (.sl 250 0 (push1 (bk l w k) (flr (l.getD k default).t w) (l.getD k default).v).1.length) rfl (by rw [hp]; simp) ?_
              refine rowsc 282 (push1 (bk l w k) (flr (l.getD k default).t w) (l.getD k default).v).2.length (rollF (push1 (bk l w k) (flr (l.getD k default).t w) (l.getD k default).v).2) rfl (by rw [hp]; simp) (fun i c hi hc => by rw [hp]; exact cat_roll (r := ⟨0, 0, 0, 0⟩) i c hi hc) ?_
              refine cval 10 (.sl 282 0 (push1 (bk l w k) (flr (l.getD k default).t w) (l.getD k default).v).2.length) rfl (by rw [hp]; simp) ?_
              have hpl := push1_len (bk l w k) (flr (l.getD k default).t w) (l.getD k default).v hlk.1
              have hsr := getR_small (by omega) (push_small (f := flr (l.getD k default).t w) (v := (l.getD k default).v) (by omega) hsm) ((push1 (bk l w k) (flr (l.getD k default).t w) (l.getD k default).v).2.length - 1)
              obtain ⟨hr1, hr2, hr3, hr4⟩ := hsr
              refine r1 ?_
              refine s1 65 306 1 rfl rfl rfl rfl rfl rfl trivial ?_
              refine s1 66 314 2 rfl rfl rfl rfl rfl rfl trivial ?_
              refine s1 67 322 3 rfl rfl rfl rfl rfl rfl (by first | trivial | omega | (simp only [List.length_map, List.length_append, List.length_cons, List.length_nil] at *; omega)) ?_
              refine sA 68 330 4 rfl rfl rfl rfl rfl rfl rfl rfl rfl (by unfold inRange; omega) ?_
              refine s1 69 338 5 rfl rfl rfl rfl rfl rfl (by omega) ?_
              refine val 69 (.ptr 282 ((push1 (bk l w k) (flr (l.getD k default).t w) (l.getD k default).v).2.length - 1) 0) rfl (by rw [show (((push1 (bk l w k) (flr (l.getD k default).t w) (l.getD k default).v).2.length : Int) - 1).toNat = (push1 (bk l w k) (flr (l.getD k default).t w) (l.getD k default).v).2.length - 1 by omega, Nat.zero_add]) ?_
              refine s1 15 346 6 rfl rfl rfl rfl rfl rfl trivial ?_
              refine e1 354 rfl ?_
              refine keep [1, 9, 10, 12, 15, 30, 31, 32] rfl ?_
              refine rd0 rfl ?_
              refine d1 70 354 1 rfl rfl rfl rfl rfl rfl trivial ?_
              refine d1 71 362 2 rfl rfl rfl rfl rfl rfl trivial ?_
              refine d1 72 370 3 rfl rfl rfl rfl rfl rfl trivial ?_
              refine d1 73 378 4 rfl rfl rfl rfl rfl rfl (by omega) ?_
              refine val 73 (rollS ((push1 (bk l w k) (flr (l.getD k default).t w) (l.getD k default).v).2.getD ((push1 (bk l w k) (flr (l.getD k default).t w) (l.getD k default).v).2.length - 1) default)) rfl (by rfl) ?_
              refine d1 74 386 5 rfl rfl rfl rfl rfl rfl trivial ?_
              refine d1 75 394 6 rfl rfl rfl rfl rfl rfl (by first | trivial | omega | (simp only [List.length_map, List.length_append, List.length_cons, List.length_nil] at *; omega)) ?_
              refine dc1 (with_any ((push1 (bk l w k) (flr (l.getD k default).t w) (l.getD k default).v).2.getD ((push1 (bk l w k) (flr (l.getD k default).t w) (l.getD k default).v).2.length - 1) default) (l.getD k default).v ⟨by omega, by omega⟩ ⟨by omega, by omega⟩) [] [] 76 402 7 rfl rfl rfl rfl rfl rfl rfl rfl Tryd.func48 rfl rfl rfl rfl trivial rfl rfl ?_
              refine d1 77 410 8 rfl rfl rfl rfl rfl rfl trivial ?_
              refine d0 418 9 rfl rfl rfl rfl rfl (by omega) ?_
              refine de1 426 rfl (by kernel_rfl) ?_
              refine bn ?_
              refine tn ?_
              refine rowsc 282 (upd1 (push1 (bk l w k) (flr (l.getD k default).t w) (l.getD k default).v).2 (l.getD k default).v).length (rollF (upd1 (push1 (bk l w k) (flr (l.getD k default).t w) (l.getD k default).v).2 (l.getD k default).v)) rfl (by unfold upd1; rw [List.length_set]) (fun i c hi hc => set_roll i c hi hc) ?_
              refine cval 10 (.sl 282 0 (upd1 (push1 (bk l w k) (flr (l.getD k default).t w) (l.getD k default).v).2 (l.getD k default).v).length) rfl (by unfold upd1; rw [List.length_set]) ?_
              refine r0 ?_
              refine sA 78 426 1 rfl rfl rfl rfl rfl rfl rfl rfl rfl (by unfold inRange; omega) ?_
              refine s1 32 434 2 rfl rfl rfl rfl rfl rfl trivial ?_
              refine e1 442 rfl ?_
              refine tn ?_
              exact again ((k + 1 : Nat)) [250, 282] (show (k + 1) ≤ l.length from (by omega)) (show l.length - (k + 1) < l.length - k from (by omega)) rfl ⟨rfl, rfl, rfl, rfl, rfl, rfl, trivial⟩ ⟨rfl, rfl, trivial⟩
            · skip
              try simp only [decide_eq_true_eq, decide_eq_false_iff_not, Bool.not_eq_true', Bool.not_eq_false', beq_iff_eq, bne_iff_ne, beq_eq_false_iff_ne, Bool.and_eq_true, Bool.or_eq_true, Bool.and_eq_false_iff, Bool.or_eq_false_iff, ge_iff_le, gt_iff_lt, Int.not_lt, Int.not_le, ne_eq, Decidable.not_not, bne_eq_false_iff_eq] at hc13
              refine W_skip ?_
              refine tn ?_
              have hp : (push1 (bk l w k) (flr (l.getD k default).t w) (l.getD k default).v) = bk l w k := (by unfold push1; rw [if_neg (by unfold isNew; omega)])
              refine rowsc 0 (push1 (bk l w k) (flr (l.getD k default).t w) (l.getD k default).v).1.length (smpF (push1 (bk l w k) (flr (l.getD k default).t w) (l.getD k default).v).1) rfl (by rw [hp]) (fun i c hi hc => by rw [hp]) ?_
              refine cval 9 (.sl 0 0 (push1 (bk l w k) (flr (l.getD k default).t w) (l.getD k default).v).1.length) rfl (by rw [hp]) ?_
              refine rowsc 1 (push1 (bk l w k) (flr (l.getD k default).t w) (l.getD k default).v).2.length (rollF (push1 (bk l w k) (flr (l.getD k default).t w) (l.getD k default).v).2) rfl (by rw [hp]) (fun i c hi hc => by rw [hp]) ?_
              refine cval 10 (.sl 1 0 (push1 (bk l w k) (flr (l.getD k default).t w) (l.getD k default).v).2.length) rfl (by rw [hp]) ?_
              have hpl := push1_len (bk l w k) (flr (l.getD k default).t w) (l.getD k default).v hlk.1
              have hsr := getR_small (by omega) (push_small (f := flr (l.getD k default).t w) (v := (l.getD k default).v) (by omega) hsm) ((push1 (bk l w k) (flr (l.getD k default).t w) (l.getD k default).v).2.length - 1)
              obtain ⟨hr1, hr2, hr3, hr4⟩ := hsr
              refine r1 ?_
              refine s1 65 202 1 rfl rfl rfl rfl rfl rfl trivial ?_
              refine s1 66 210 2 rfl rfl rfl rfl rfl rfl trivial ?_
              refine s1 67 218 3 rfl rfl rfl rfl rfl rfl (by first | trivial | omega | (simp only [List.length_map, List.length_append, List.length_cons, List.length_nil] at *; omega)) ?_
              refine sA 68 226 4 rfl rfl rfl rfl rfl rfl rfl rfl rfl (by unfold inRange; omega) ?_
              refine s1 69 234 5 rfl rfl rfl rfl rfl rfl (by omega) ?_
              refine val 69 (.ptr 1 ((push1 (bk l w k) (flr (l.getD k default).t w) (l.getD k default).v).2.length - 1) 0) rfl (by rw [show (((push1 (bk l w k) (flr (l.getD k default).t w) (l.getD k default).v).2.length : Int) - 1).toNat = (push1 (bk l w k) (flr (l.getD k default).t w) (l.getD k default).v).2.length - 1 by omega, Nat.zero_add]) ?_
              refine s1 15 242 6 rfl rfl rfl rfl rfl rfl trivial ?_
              refine e1 250 rfl ?_
              refine keep [1, 9, 10, 12, 15, 30, 31, 32] rfl ?_
              refine rd0 rfl ?_
              refine d1 70 250 1 rfl rfl rfl rfl rfl rfl trivial ?_
              refine d1 71 258 2 rfl rfl rfl rfl rfl rfl trivial ?_
              refine d1 72 266 3 rfl rfl rfl rfl rfl rfl trivial ?_
              refine d1 73 274 4 rfl rfl rfl rfl rfl rfl (by omega) ?_
              refine val 73 (rollS ((push1 (bk l w k) (flr (l.getD k default).t w) (l.getD k default).v).2.getD ((push1 (bk l w k) (flr (l.getD k default).t w) (l.getD k default).v).2.length - 1) default)) rfl (by rfl) ?_
              refine d1 74 282 5 rfl rfl rfl rfl rfl rfl trivial ?_
              refine d1 75 290 6 rfl rfl rfl rfl rfl rfl (by first | trivial | omega | (simp only [List.length_map, List.length_append, List.length_cons, List.length_nil] at *; omega)) ?_
              refine dc1 (with_any ((push1 (bk l w k) (flr (l.getD k default).t w) (l.getD k default).v).2.getD ((push1 (bk l w k) (flr (l.getD k default).t w) (l.getD k default).v).2.length - 1) default) (l.getD k default).v ⟨by omega, by omega⟩ ⟨by omega, by omega⟩) [] [] 76 298 7 rfl rfl rfl rfl rfl rfl rfl rfl Tryd.func48 rfl rfl rfl rfl trivial rfl rfl ?_
              refine d1 77 306 8 rfl rfl rfl rfl rfl rfl trivial ?_
              refine d0 314 9 rfl rfl rfl rfl rfl (by omega) ?_
              refine de1 322 rfl (by kernel_rfl) ?_
              refine bn ?_
              refine tn ?_
              refine rowsc 1 (upd1 (push1 (bk l w k) (flr (l.getD k default).t w) (l.getD k default).v).2 (l.getD k default).v).length (rollF (upd1 (push1 (bk l w k) (flr (l.getD k default).t w) (l.getD k default).v).2 (l.getD k default).v)) rfl (by unfold upd1; rw [List.length_set]) (fun i c hi hc => set_roll i c hi hc) ?_
              refine cval 10 (.sl 1 0 (upd1 (push1 (bk l w k) (flr (l.getD k default).t w) (l.getD k default).v).2 (l.getD k default).v).length) rfl (by unfold upd1; rw [List.length_set]) ?_
              refine r0 ?_
              refine sA 78 322 1 rfl rfl rfl rfl rfl rfl rfl rfl rfl (by unfold inRange; omega) ?_
              refine s1 32 330 2 rfl rfl rfl rfl rfl rfl trivial ?_
              refine e1 338 rfl ?_
              refine tn ?_
              exact again ((k + 1 : Nat)) [0, 1] (show (k + 1) ≤ l.length from (by omega)) (show l.length - (k + 1) < l.length - k from (by omega)) rfl ⟨rfl, rfl, rfl, rfl, rfl, rfl, trivial⟩ ⟨rfl, rfl, trivial⟩
        · skip
          try simp only [decide_eq_true_eq, decide_eq_false_iff_not, Bool.not_eq_true', Bool.not_eq_false', beq_iff_eq, bne_iff_ne, beq_eq_false_iff_ne, Bool.and_eq_true, Bool.or_eq_true, Bool.and_eq_false_iff, Bool.or_eq_false_iff, ge_iff_le, gt_iff_lt, Int.not_lt, Int.not_le, ne_eq, Decidable.not_not, bne_eq_false_iff_eq] at hc9
          refine W_exit ?_
          refine tx ?_
          refine tx ?_
          refine bx ?_
          refine tn ?_
          refine W_seq ?_
          obtain rfl : k = l.length := (by omega)
          refine r1 ?_
          refine s1 79 10 1 rfl rfl rfl rfl rfl rfl trivial ?_
          refine s1 80 18 2 rfl rfl rfl rfl rfl rfl (by first | trivial | omega | (simp only [List.length_map, List.length_append, List.length_cons, List.length_nil] at *; omega)) ?_
          refine s1 81 26 3 rfl rfl rfl rfl rfl rfl (by first | trivial | omega | (simp only [List.length_map, List.length_append, List.length_cons, List.length_nil] at *; omega)) ?_
          refine e1 34 rfl ?_
          refine keep [9, 10, 81] rfl ?_
          refine q1 rfl (fun hc18 => ?_) (fun hc18 => ?_)
          · skip
            try simp only [decide_eq_true_eq, decide_eq_false_iff_not, Bool.not_eq_true', Bool.not_eq_false', beq_iff_eq, bne_iff_ne, beq_eq_false_iff_ne, Bool.and_eq_true, Bool.or_eq_true, Bool.and_eq_false_iff, Bool.or_eq_false_iff, ge_iff_le, gt_iff_lt, Int.not_lt, Int.not_le, ne_eq, Decidable.not_not, bne_eq_false_iff_eq] at hc18
            refine r1 ?_
            refine s1 4 34 1 rfl rfl rfl rfl rfl rfl trivial ?_
            refine s1 5 42 2 rfl rfl rfl rfl rfl rfl trivial ?_
            refine s1 6 50 3 rfl rfl rfl rfl rfl rfl trivial ?_
            refine e1 58 rfl ?_
            refine keep [4, 5, 6] rfl ?_
            refine W_ret ?_
            refine tr ?_
            exact out3 4 5 6 (.d .nils) (.d .nils) (SV.i (bucE l w)) (π := []) (hout := []) Tryd.results18 rfl rfl rfl rfl rfl (by unfold bucE; rw [if_neg (by omega), if_neg (by omega), if_pos hn]; rfl) rfl rfl trivial ⟨rfl, rfl⟩
          · skip
            exfalso; simp at hc18; omega

theorem begin_any (t w : Int) (ht : inV t) (hw : 1 ≤ w) (hw2 : w ≤ 1048576) : Spec Tryd.prog GC 49 [SV.i t, .ptr 0 0 0] [.cells 3 1 [SV.i w]] (fun r ho => r = SV.i (flr t w) ∧ ho = [some (.cells 3 1 [SV.i w])]) := by
  have hb := tdiv_bd (t := t) (w := w) (by omega) ht
  have hb2 := flr_bd (t := t) (w := w) (by omega) hw2 ht
  rw [flr_mul] at hb2
  refine start 18 1 Tryd.func49 rfl rfl rfl rfl ?_
  refine r1 ?_
  refine s1 3 1 1 rfl rfl rfl rfl rfl rfl trivial ?_
  refine e1 9 rfl ?_
  refine keep [0, 1] rfl ?_
  refine r1 ?_
  refine s1 5 9 1 rfl rfl rfl rfl rfl rfl trivial ?_
  refine s1 6 17 2 rfl rfl rfl rfl rfl rfl (by first | trivial | omega | (simp only [List.length_map, List.length_append, List.length_cons, List.length_nil] at *; omega)) ?_
  refine s1 7 25 3 rfl rfl rfl rfl rfl rfl (by show _ ≠ _; omega) ?_
  refine val 7 (SV.i (t.tdiv w)) rfl (congrArg (fun x => SV.d (D.val (Value.int .i64 x))) (wrap_in ⟨by omega, by omega⟩)) ?_
  refine s1 4 33 4 rfl rfl rfl rfl rfl rfl trivial ?_
  refine e1 41 rfl ?_
  refine keep [0, 1, 4] rfl ?_
  refine W_seq ?_
  refine r1 ?_
  refine s1 8 41 1 rfl rfl rfl rfl rfl rfl trivial ?_
  refine s1 9 49 2 rfl rfl rfl rfl rfl rfl (by first | trivial | omega | (simp only [List.length_map, List.length_append, List.length_cons, List.length_nil] at *; omega)) ?_
  refine sA 10 57 3 rfl rfl rfl rfl rfl rfl rfl rfl rfl (by unfold inRange; omega) ?_
  refine s1 11 65 4 rfl rfl rfl rfl rfl rfl trivial ?_
  refine s1 12 73 5 rfl rfl rfl rfl rfl rfl (by first | trivial | omega | (simp only [List.length_map, List.length_append, List.length_cons, List.length_nil] at *; omega)) ?_
  refine e1 81 rfl ?_
  refine keep [1, 4, 12] rfl ?_
  refine q1 rfl (fun hc2 => ?_) (fun hc2 => ?_)
  · skip
    try simp only [decide_eq_true_eq, decide_eq_false_iff_not, Bool.not_eq_true', Bool.not_eq_false', beq_iff_eq, bne_iff_ne, beq_eq_false_iff_ne, Bool.and_eq_true, Bool.or_eq_true, Bool.and_eq_false_iff, Bool.or_eq_false_iff, ge_iff_le, gt_iff_lt, Int.not_lt, Int.not_le, ne_eq, Decidable.not_not, bne_eq_false_iff_eq] at hc2
    refine r0 ?_
    refine s1 13 81 1 rfl rfl rfl rfl rfl rfl trivial ?_
    refine sA 14 89 2 rfl rfl rfl rfl rfl rfl rfl rfl rfl (by unfold inRange; omega) ?_
    refine s1 4 97 3 rfl rfl rfl rfl rfl rfl trivial ?_
    refine e1 105 rfl ?_
    refine tn ?_
    refine r1 ?_
    refine s1 15 105 1 rfl rfl rfl rfl rfl rfl trivial ?_
    refine s1 16 113 2 rfl rfl rfl rfl rfl rfl (by first | trivial | omega | (simp only [List.length_map, List.length_append, List.length_cons, List.length_nil] at *; omega)) ?_
    refine sA 17 121 3 rfl rfl rfl rfl rfl rfl rfl rfl rfl (by rw [div_neg (by omega) (by omega)]; exact ⟨by omega, by omega⟩) ?_
    refine s1 3 129 4 rfl rfl rfl rfl rfl rfl trivial ?_
    refine e1 137 rfl ?_
    refine keep [3] rfl ?_
    refine W_ret ?_
    exact out1 3 (SV.i (flr t w)) (π := [0]) (hout := [some (.cells 3 1 [SV.i w])]) Tryd.results49 rfl (by first | exact (congrArg (fun x => SV.d (D.val (Value.int .i64 x))) (by rw [flr_mul, div_neg (by omega) (by omega)])) | exact (congrArg (fun x => SV.d (D.val (Value.int .i64 x))) (by rw [flr_mul, div_pos (by omega) (by omega)]))) rfl rfl ⟨rfl, trivial⟩ ⟨rfl, rfl⟩
  · skip
    try simp only [decide_eq_true_eq, decide_eq_false_iff_not, Bool.not_eq_true', Bool.not_eq_false', beq_iff_eq, bne_iff_ne, beq_eq_false_iff_ne, Bool.and_eq_true, Bool.or_eq_true, Bool.and_eq_false_iff, Bool.or_eq_false_iff, ge_iff_le, gt_iff_lt, Int.not_lt, Int.not_le, ne_eq, Decidable.not_not, bne_eq_false_iff_eq] at hc2
    refine W_skip ?_
    refine tn ?_
    refine r1 ?_
    refine s1 15 81 1 rfl rfl rfl rfl rfl rfl trivial ?_
    refine s1 16 89 2 rfl rfl rfl rfl rfl rfl (by first | trivial | omega | (simp only [List.length_map, List.length_append, List.length_cons, List.length_nil] at *; omega)) ?_
    refine sA 17 97 3 rfl rfl rfl rfl rfl rfl rfl rfl rfl (by exact ⟨by omega, by omega⟩) ?_
    refine s1 3 105 4 rfl rfl rfl rfl rfl rfl trivial ?_
    refine e1 113 rfl ?_
    refine keep [3] rfl ?_
    refine W_ret ?_
    exact out1 3 (SV.i (flr t w)) (π := [0]) (hout := [some (.cells 3 1 [SV.i w])]) Tryd.results49 rfl (by first | exact (congrArg (fun x => SV.d (D.val (Value.int .i64 x))) (by rw [flr_mul, div_neg (by omega) (by omega)])) | exact (congrArg (fun x => SV.d (D.val (Value.int .i64 x))) (by rw [flr_mul, div_pos (by omega) (by omega)]))) rfl rfl ⟨rfl, trivial⟩ ⟨rfl, rfl⟩

theorem refBuck_range (l : List Smp) (hin : SmpIn l) (w : Int) (hwi : inRange w) (hw : ¬ (1 ≤ w ∧ w ≤ 1048576)) : Spec Tryd.prog GC 19 [smpV l, SV.i w] [] (fun r ho => r = SV.tup [.d .nils, .d .nils, SV.i (bucE l w)] ∧ ho = []) := by
  refine start 82 0 Tryd.func19 rfl rfl rfl rfl ?_
  refine r1 ?_
  refine s1 3 0 1 rfl rfl rfl rfl rfl rfl trivial ?_
  refine s1 4 8 2 rfl rfl rfl rfl rfl rfl trivial ?_
  refine s1 5 16 3 rfl rfl rfl rfl rfl rfl trivial ?_
  refine s1 6 24 4 rfl rfl rfl rfl rfl rfl trivial ?_
  refine e1 32 rfl ?_
  refine keep [0, 3] rfl ?_
  refine W_seq ?_
  refine r1 ?_
  refine s1 14 32 1 rfl rfl rfl rfl rfl rfl (by first | trivial | omega | (simp only [List.length_map, List.length_append, List.length_cons, List.length_nil] at *; omega)) ?_
  refine s1 15 40 2 rfl rfl rfl rfl rfl rfl (by first | trivial | omega | (simp only [List.length_map, List.length_append, List.length_cons, List.length_nil] at *; omega)) ?_
  refine s1 16 48 3 rfl rfl rfl rfl rfl rfl trivial ?_
  refine ask 16 rfl (fun hg1_16 => ?_) (fun hg1_16 => ?_)
  · skip
    try simp only [decide_eq_true_eq, decide_eq_false_iff_not, Bool.not_eq_true', Bool.not_eq_false', beq_iff_eq, bne_iff_ne, beq_eq_false_iff_ne, Bool.and_eq_true, Bool.or_eq_true, Bool.and_eq_false_iff, Bool.or_eq_false_iff, ge_iff_le, gt_iff_lt, Int.not_lt, Int.not_le, ne_eq, Decidable.not_not, bne_eq_false_iff_eq] at hg1_16
    refine g0 2 false 16 17 4 rfl rfl rfl rfl rfl rfl ?_
    refine g0 2 false 16 18 5 rfl rfl rfl rfl rfl rfl ?_
    refine s1 19 72 6 rfl rfl rfl rfl rfl rfl trivial ?_
    refine e1 80 rfl ?_
    refine keep [0, 3, 19] rfl ?_
    refine q1 rfl (fun hc1 => ?_) (fun hc1 => ?_)
    · skip
      try simp only [decide_eq_true_eq, decide_eq_false_iff_not, Bool.not_eq_true', Bool.not_eq_false', beq_iff_eq, bne_iff_ne, beq_eq_false_iff_ne, Bool.and_eq_true, Bool.or_eq_true, Bool.and_eq_false_iff, Bool.or_eq_false_iff, ge_iff_le, gt_iff_lt, Int.not_lt, Int.not_le, ne_eq, Decidable.not_not, bne_eq_false_iff_eq] at hc1
      refine r1 ?_
      refine s1 4 80 1 rfl rfl rfl rfl rfl rfl trivial ?_
      refine s1 5 88 2 rfl rfl rfl rfl rfl rfl trivial ?_
      refine s1 6 96 3 rfl rfl rfl rfl rfl rfl trivial ?_
      refine e1 104 rfl ?_
      refine keep [4, 5, 6] rfl ?_
      refine W_ret ?_
      refine tr ?_
      exact out3 4 5 6 (.d .nils) (.d .nils) (SV.i (bucE l w)) (π := []) (hout := []) Tryd.results19 rfl rfl rfl rfl rfl (by unfold bucE; rw [if_pos (by omega)]; rfl) rfl rfl trivial ⟨rfl, rfl⟩
    · skip
      exact absurd hc1 (by decide)
  · skip
    try simp only [decide_eq_true_eq, decide_eq_false_iff_not, Bool.not_eq_true', Bool.not_eq_false', beq_iff_eq, bne_iff_ne, beq_eq_false_iff_ne, Bool.and_eq_true, Bool.or_eq_true, Bool.and_eq_false_iff, Bool.or_eq_false_iff, ge_iff_le, gt_iff_lt, Int.not_lt, Int.not_le, ne_eq, Decidable.not_not, bne_eq_false_iff_eq] at hg1_16
    refine g1 2 false 16 17 4 rfl rfl rfl rfl rfl ?_
    refine s1 17 56 4 rfl rfl rfl rfl rfl rfl (by first | trivial | omega | (simp only [List.length_map, List.length_append, List.length_cons, List.length_nil] at *; omega)) ?_
    refine g1 2 false 16 18 5 rfl rfl rfl rfl rfl ?_
    refine s1 18 64 5 rfl rfl rfl rfl rfl rfl (by first | trivial | omega | (simp only [List.length_map, List.length_append, List.length_cons, List.length_nil] at *; omega)) ?_
    refine s1 19 72 6 rfl rfl rfl rfl rfl rfl trivial ?_
    refine e1 80 rfl ?_
    refine keep [0, 3, 19] rfl ?_
    refine q1 rfl (fun hc1 => ?_) (fun hc1 => ?_)
    · skip
      try simp only [decide_eq_true_eq, decide_eq_false_iff_not, Bool.not_eq_true', Bool.not_eq_false', beq_iff_eq, bne_iff_ne, beq_eq_false_iff_ne, Bool.and_eq_true, Bool.or_eq_true, Bool.and_eq_false_iff, Bool.or_eq_false_iff, ge_iff_le, gt_iff_lt, Int.not_lt, Int.not_le, ne_eq, Decidable.not_not, bne_eq_false_iff_eq] at hc1
      refine r1 ?_
      refine s1 4 80 1 rfl rfl rfl rfl rfl rfl trivial ?_
      refine s1 5 88 2 rfl rfl rfl rfl rfl rfl trivial ?_
      refine s1 6 96 3 rfl rfl rfl rfl rfl rfl trivial ?_
      refine e1 104 rfl ?_
      refine keep [4, 5, 6] rfl ?_
      refine W_ret ?_
      refine tr ?_
      exact out3 4 5 6 (.d .nils) (.d .nils) (SV.i (bucE l w)) (π := []) (hout := []) Tryd.results19 rfl rfl rfl rfl rfl (by unfold bucE; rw [if_pos (by omega)]; rfl) rfl rfl trivial ⟨rfl, rfl⟩
    · skip
      exfalso; simp at hc1; omega

theorem refBuck_fault (l : List Smp) (hin : SmpIn l) (w : Int) (hwi : inRange w) (hw : 1 ≤ w ∧ w ≤ 1048576) (hz : sfault l ≠ 0) : Spec Tryd.prog GC 19 [smpV l, SV.i w] [] (fun r ho => r = SV.tup [.d .nils, .d .nils, SV.i (bucE l w)] ∧ ho = []) := by
  refine start 82 0 Tryd.func19 rfl rfl rfl rfl ?_
  refine r1 ?_
  refine s1 3 0 1 rfl rfl rfl rfl rfl rfl trivial ?_
  refine s1 4 8 2 rfl rfl rfl rfl rfl rfl trivial ?_
  refine s1 5 16 3 rfl rfl rfl rfl rfl rfl trivial ?_
  refine s1 6 24 4 rfl rfl rfl rfl rfl rfl trivial ?_
  refine e1 32 rfl ?_
  refine keep [0, 3] rfl ?_
  refine W_seq ?_
  refine r1 ?_
  refine s1 14 32 1 rfl rfl rfl rfl rfl rfl (by first | trivial | omega | (simp only [List.length_map, List.length_append, List.length_cons, List.length_nil] at *; omega)) ?_
  refine s1 15 40 2 rfl rfl rfl rfl rfl rfl (by first | trivial | omega | (simp only [List.length_map, List.length_append, List.length_cons, List.length_nil] at *; omega)) ?_
  refine s1 16 48 3 rfl rfl rfl rfl rfl rfl trivial ?_
  refine ask 16 rfl (fun hg1_16 => ?_) (fun hg1_16 => ?_)
  · skip
    try simp only [decide_eq_true_eq, decide_eq_false_iff_not, Bool.not_eq_true', Bool.not_eq_false', beq_iff_eq, bne_iff_ne, beq_eq_false_iff_ne, Bool.and_eq_true, Bool.or_eq_true, Bool.and_eq_false_iff, Bool.or_eq_false_iff, ge_iff_le, gt_iff_lt, Int.not_lt, Int.not_le, ne_eq, Decidable.not_not, bne_eq_false_iff_eq] at hg1_16
    refine g0 2 false 16 17 4 rfl rfl rfl rfl rfl rfl ?_
    refine g0 2 false 16 18 5 rfl rfl rfl rfl rfl rfl ?_
    refine s1 19 72 6 rfl rfl rfl rfl rfl rfl trivial ?_
    refine e1 80 rfl ?_
    refine keep [0, 3, 19] rfl ?_
    refine q1 rfl (fun hc1 => ?_) (fun hc1 => ?_)
    · skip
      exfalso; simp at hc1; omega
    · skip
      exact absurd hc1 (by decide)
  · skip
    try simp only [decide_eq_true_eq, decide_eq_false_iff_not, Bool.not_eq_true', Bool.not_eq_false', beq_iff_eq, bne_iff_ne, beq_eq_false_iff_ne, Bool.and_eq_true, Bool.or_eq_true, Bool.and_eq_false_iff, Bool.or_eq_false_iff, ge_iff_le, gt_iff_lt, Int.not_lt, Int.not_le, ne_eq, Decidable.not_not, bne_eq_false_iff_eq] at hg1_16
    refine g1 2 false 16 17 4 rfl rfl rfl rfl rfl ?_
    refine s1 17 56 4 rfl rfl rfl rfl rfl rfl (by first | trivial | omega | (simp only [List.length_map, List.length_append, List.length_cons, List.length_nil] at *; omega)) ?_
    refine g1 2 false 16 18 5 rfl rfl rfl rfl rfl ?_
    refine s1 18 64 5 rfl rfl rfl rfl rfl rfl (by first | trivial | omega | (simp only [List.length_map, List.length_append, List.length_cons, List.length_nil] at *; omega)) ?_
    refine s1 19 72 6 rfl rfl rfl rfl rfl rfl trivial ?_
    refine e1 80 rfl ?_
    refine keep [0, 3, 19] rfl ?_
    refine q1 rfl (fun hc1 => ?_) (fun hc1 => ?_)
    · skip
      exfalso; simp at hc1; omega
    · skip
      try simp only [decide_eq_true_eq, decide_eq_false_iff_not, Bool.not_eq_true', Bool.not_eq_false', beq_iff_eq, bne_iff_ne, beq_eq_false_iff_ne, Bool.and_eq_true, Bool.or_eq_true, Bool.and_eq_false_iff, Bool.or_eq_false_iff, ge_iff_le, gt_iff_lt, Int.not_lt, Int.not_le, ne_eq, Decidable.not_not, bne_eq_false_iff_eq] at hc1
      refine W_skip ?_
      refine tn ?_
      refine W_seq ?_
      refine r1 ?_
      refine s1 20 80 1 rfl rfl rfl rfl rfl rfl trivial ?_
      refine c1 (sfault_any l hin) [] [] 21 88 2 rfl rfl rfl rfl rfl rfl rfl rfl Tryd.func32 rfl rfl rfl rfl trivial rfl rfl ?_
      refine s1 7 96 3 rfl rfl rfl rfl rfl rfl trivial ?_
      refine e1 104 rfl ?_
      refine keep [0, 3, 7] rfl ?_
      refine r1 ?_
      refine s1 22 104 1 rfl rfl rfl rfl rfl rfl trivial ?_
      refine s1 23 112 2 rfl rfl rfl rfl rfl rfl (by first | trivial | omega | (simp only [List.length_map, List.length_append, List.length_cons, List.length_nil] at *; omega)) ?_
      refine e1 120 rfl ?_
      refine keep [0, 3, 7, 23] rfl ?_
      refine q1 rfl (fun hc4 => ?_) (fun hc4 => ?_)
      · skip
        try simp only [decide_eq_true_eq, decide_eq_false_iff_not, Bool.not_eq_true', Bool.not_eq_false', beq_iff_eq, bne_iff_ne, beq_eq_false_iff_ne, Bool.and_eq_true, Bool.or_eq_true, Bool.and_eq_false_iff, Bool.or_eq_false_iff, ge_iff_le, gt_iff_lt, Int.not_lt, Int.not_le, ne_eq, Decidable.not_not, bne_eq_false_iff_eq] at hc4
        refine r1 ?_
        refine s1 24 120 1 rfl rfl rfl rfl rfl rfl trivial ?_
        refine s1 4 128 2 rfl rfl rfl rfl rfl rfl trivial ?_
        refine s1 5 136 3 rfl rfl rfl rfl rfl rfl trivial ?_
        refine s1 6 144 4 rfl rfl rfl rfl rfl rfl trivial ?_
        refine e1 152 rfl ?_
        refine keep [4, 5, 6] rfl ?_
        refine W_ret ?_
        refine tr ?_
        exact out3 4 5 6 (.d .nils) (.d .nils) (SV.i (bucE l w)) (π := []) (hout := []) Tryd.results19 rfl rfl rfl rfl rfl (by unfold bucE; rw [if_neg (by omega), if_pos hz]; rfl) rfl rfl trivial ⟨rfl, rfl⟩
      · skip
        exact absurd hc4 (by simpa using hz)

theorem refBuck_ok (l : List Smp) (hin : SmpIn l) (w : Int) (hwi : inRange w) (hw : 1 ≤ w ∧ w ≤ 1048576) (hz : sfault l = 0) (hn : (bk l w l.length).1.length ≤ 100) : Spec Tryd.prog GC 19 [smpV l, SV.i w] [] (fun r ho => r = SV.tup [.sl 0 0 (bk l w l.length).1.length, .sl 1 0 (bk l w l.length).2.length, SV.i 0] ∧ ho = [some (.rows 49 2 (bk l w l.length).1.length (smpF (bk l w l.length).1)), some (.rows 34 4 (bk l w l.length).2.length (rollF (bk l w l.length).2))]) := by
  have hp0 := sf_parts hz
  have hv := samp_in hz
  refine start 82 0 Tryd.func19 rfl rfl rfl rfl ?_
  refine r1 ?_
  refine s1 3 0 1 rfl rfl rfl rfl rfl rfl trivial ?_
  refine s1 4 8 2 rfl rfl rfl rfl rfl rfl trivial ?_
  refine s1 5 16 3 rfl rfl rfl rfl rfl rfl trivial ?_
  refine s1 6 24 4 rfl rfl rfl rfl rfl rfl trivial ?_
  refine e1 32 rfl ?_
  refine keep [0, 3] rfl ?_
  refine W_seq ?_
  refine r1 ?_
  refine s1 14 32 1 rfl rfl rfl rfl rfl rfl (by first | trivial | omega | (simp only [List.length_map, List.length_append, List.length_cons, List.length_nil] at *; omega)) ?_
  refine s1 15 40 2 rfl rfl rfl rfl rfl rfl (by first | trivial | omega | (simp only [List.length_map, List.length_append, List.length_cons, List.length_nil] at *; omega)) ?_
  refine s1 16 48 3 rfl rfl rfl rfl rfl rfl trivial ?_
  refine ask 16 rfl (fun hg1_16 => ?_) (fun hg1_16 => ?_)
  · skip
    try simp only [decide_eq_true_eq, decide_eq_false_iff_not, Bool.not_eq_true', Bool.not_eq_false', beq_iff_eq, bne_iff_ne, beq_eq_false_iff_ne, Bool.and_eq_true, Bool.or_eq_true, Bool.and_eq_false_iff, Bool.or_eq_false_iff, ge_iff_le, gt_iff_lt, Int.not_lt, Int.not_le, ne_eq, Decidable.not_not, bne_eq_false_iff_eq] at hg1_16
    refine g0 2 false 16 17 4 rfl rfl rfl rfl rfl rfl ?_
    refine g0 2 false 16 18 5 rfl rfl rfl rfl rfl rfl ?_
    refine s1 19 72 6 rfl rfl rfl rfl rfl rfl trivial ?_
    refine e1 80 rfl ?_
    refine keep [0, 3, 19] rfl ?_
    refine q1 rfl (fun hc1 => ?_) (fun hc1 => ?_)
    · skip
      exfalso; simp at hc1; omega
    · skip
      exact absurd hc1 (by decide)
  · skip
    try simp only [decide_eq_true_eq, decide_eq_false_iff_not, Bool.not_eq_true', Bool.not_eq_false', beq_iff_eq, bne_iff_ne, beq_eq_false_iff_ne, Bool.and_eq_true, Bool.or_eq_true, Bool.and_eq_false_iff, Bool.or_eq_false_iff, ge_iff_le, gt_iff_lt, Int.not_lt, Int.not_le, ne_eq, Decidable.not_not, bne_eq_false_iff_eq] at hg1_16
    refine g1 2 false 16 17 4 rfl rfl rfl rfl rfl ?_
    refine s1 17 56 4 rfl rfl rfl rfl rfl rfl (by first | trivial | omega | (simp only [List.length_map, List.length_append, List.length_cons, List.length_nil] at *; omega)) ?_
    refine g1 2 false 16 18 5 rfl rfl rfl rfl rfl ?_
    refine s1 18 64 5 rfl rfl rfl rfl rfl rfl (by first | trivial | omega | (simp only [List.length_map, List.length_append, List.length_cons, List.length_nil] at *; omega)) ?_
    refine s1 19 72 6 rfl rfl rfl rfl rfl rfl trivial ?_
    refine e1 80 rfl ?_
    refine keep [0, 3, 19] rfl ?_
    refine q1 rfl (fun hc1 => ?_) (fun hc1 => ?_)
    · skip
      exfalso; simp at hc1; omega
    · skip
      try simp only [decide_eq_true_eq, decide_eq_false_iff_not, Bool.not_eq_true', Bool.not_eq_false', beq_iff_eq, bne_iff_ne, beq_eq_false_iff_ne, Bool.and_eq_true, Bool.or_eq_true, Bool.and_eq_false_iff, Bool.or_eq_false_iff, ge_iff_le, gt_iff_lt, Int.not_lt, Int.not_le, ne_eq, Decidable.not_not, bne_eq_false_iff_eq] at hc1
      refine W_skip ?_
      refine tn ?_
      refine W_seq ?_
      refine r1 ?_
      refine s1 20 80 1 rfl rfl rfl rfl rfl rfl trivial ?_
      refine c1 (sfault_any l hin) [] [] 21 88 2 rfl rfl rfl rfl rfl rfl rfl rfl Tryd.func32 rfl rfl rfl rfl trivial rfl rfl ?_
      refine s1 7 96 3 rfl rfl rfl rfl rfl rfl trivial ?_
      refine e1 104 rfl ?_
      refine keep [0, 3, 7] rfl ?_
      refine r1 ?_
      refine s1 22 104 1 rfl rfl rfl rfl rfl rfl trivial ?_
      refine s1 23 112 2 rfl rfl rfl rfl rfl rfl (by first | trivial | omega | (simp only [List.length_map, List.length_append, List.length_cons, List.length_nil] at *; omega)) ?_
      refine e1 120 rfl ?_
      refine keep [0, 3, 7, 23] rfl ?_
      refine q1 rfl (fun hc4 => ?_) (fun hc4 => ?_)
      · skip
        exact absurd hz (by simpa using hc4)
      · skip
        try simp only [decide_eq_true_eq, decide_eq_false_iff_not, Bool.not_eq_true', Bool.not_eq_false', beq_iff_eq, bne_iff_ne, beq_eq_false_iff_ne, Bool.and_eq_true, Bool.or_eq_true, Bool.and_eq_false_iff, Bool.or_eq_false_iff, ge_iff_le, gt_iff_lt, Int.not_lt, Int.not_le, ne_eq, Decidable.not_not, bne_eq_false_iff_eq] at hc4
        refine W_skip ?_
        refine tn ?_
        refine r1 ?_
        refine s1 25 120 1 rfl rfl rfl rfl rfl rfl trivial ?_
        refine s1 8 128 2 rfl rfl rfl rfl rfl rfl trivial ?_
        refine e1 136 rfl ?_
        refine keep [0, 8] rfl ?_
        refine r1 ?_
        refine s1 9 136 1 rfl rfl rfl rfl rfl rfl trivial ?_
        refine e1 144 rfl ?_
        refine keep [0, 8, 9] rfl ?_
        refine r1 ?_
        refine s1 10 144 1 rfl rfl rfl rfl rfl rfl trivial ?_
        refine e1 152 rfl ?_
        refine keep [0, 8, 9, 10] rfl ?_
        refine W_seq ?_
        refine r1 ?_
        refine s1 11 152 1 rfl rfl rfl rfl rfl rfl trivial ?_
        refine e1 160 rfl ?_
        refine keep [0, 8, 9, 10, 11] rfl ?_
        refine W_block ?_
        refine ghostly 9 49 2 (smpF []) rfl ?_
        refine ghostly 10 34 4 (rollF []) rfl ?_
        refine loop (α := Nat × List Smp × List Roll) 3 (fun z => [(0, smpV l), (8, .fn 49 [.ptr 0 0 0]), (9, .sl 1 0 (z.2.1).length), (10, .sl 2 0 (z.2.2).length), (11, SV.i (z.1))]) (fun z => [some (.cells 3 1 [SV.i w]), some (.rows 49 2 (z.2.1).length (smpF (z.2.1))), some (.rows 34 4 (z.2.2).length (rollF (z.2.2)))]) (fun z => (z.1) ≤ l.length ∧ bk l w (z.1) = ((z.2.1), (z.2.2)) ∧ ((z.1) < l.length → isNew (z.2.1) (flr (l.getD (z.1) default).t w))) (fun z => l.length - (z.1)) (((0, [], []) : Nat × List Smp × List Roll)) [0, 160, 168] (fun _ => rfl) (show (0) ≤ l.length ∧ bk l w (0) = (([]), ([])) ∧ ((0) < l.length → isNew ([]) (flr (l.getD (0) default).t w)) from ⟨Nat.zero_le _, rfl, fun _ => .inl rfl⟩) rfl ⟨rfl, rfl, rfl, rfl, rfl, trivial⟩ ⟨rfl, rfl, rfl, trivial⟩ (fun z hx => ?_)
        obtain ⟨i, bs, rs⟩ := z
        show W _ _ _ ⟨tOf [(0, smpV l), (8, .fn 49 [.ptr 0 0 0]), (9, .sl 1 0 bs.length), (10, .sl 2 0 rs.length), (11, SV.i i)], hOf [some (.cells 3 1 [SV.i w]), some (.rows 49 2 bs.length (smpF bs)), some (.rows 34 4 rs.length (rollF rs))], 3⟩
        have hx : i ≤ l.length ∧ bk l w i = (bs, rs) ∧ (i < l.length → isNew bs (flr (l.getD i default).t w)) := hx
        obtain ⟨hi, hb, hnw⟩ := hx
        have hlk := bk_len l w i
        rw [hb] at hlk
        have hl1 : bs.length = rs.length ∧ rs.length ≤ i := hlk
        clear hlk
        refine W_seq ?_
        refine r1 ?_
        refine s1 26 3 1 rfl rfl rfl rfl rfl rfl trivial ?_
        refine s1 27 11 2 rfl rfl rfl rfl rfl rfl trivial ?_
        refine s1 28 19 3 rfl rfl rfl rfl rfl rfl (by first | trivial | omega | (simp only [List.length_map, List.length_append, List.length_cons, List.length_nil] at *; omega)) ?_
        refine s1 29 27 4 rfl rfl rfl rfl rfl rfl (by first | trivial | omega | (simp only [List.length_map, List.length_append, List.length_cons, List.length_nil] at *; omega)) ?_
        refine e1 35 rfl ?_
        refine keep [0, 8, 9, 10, 11, 29] rfl ?_
        refine q1 rfl (fun hc10 => ?_) (fun hc10 => ?_)
        · skip
          try simp only [decide_eq_true_eq, decide_eq_false_iff_not, Bool.not_eq_true', Bool.not_eq_false', beq_iff_eq, bne_iff_ne, beq_eq_false_iff_ne, Bool.and_eq_true, Bool.or_eq_true, Bool.and_eq_false_iff, Bool.or_eq_false_iff, ge_iff_le, gt_iff_lt, Int.not_lt, Int.not_le, ne_eq, Decidable.not_not, bne_eq_false_iff_eq] at hc10
          have hvk := hv i (by omega)
          refine W_skip ?_
          refine tn ?_
          refine W_block ?_
          refine r1 ?_
          refine s1 30 35 1 rfl rfl rfl rfl rfl rfl trivial ?_
          refine s1 31 43 2 rfl rfl rfl rfl rfl rfl trivial ?_
          refine s1 32 51 3 rfl rfl rfl rfl rfl rfl trivial ?_
          refine s1 33 59 4 rfl rfl rfl rfl rfl rfl (by first | trivial | omega | (simp only [List.length_map, List.length_append, List.length_cons, List.length_nil] at *; omega)) ?_
          refine s1 34 67 5 rfl rfl rfl rfl rfl rfl trivial ?_
          refine s1 35 75 6 rfl rfl rfl rfl rfl rfl (by first | trivial | omega | (simp only [List.length_map, List.length_append, List.length_cons, List.length_nil] at *; omega)) ?_
          refine val 35 (SV.i (l.getD i default).t) rfl (by first | rfl | (simp only [Nat.zero_add, Int.toNat_natCast])) ?_
          refine c1 (begin_any (l.getD i default).t w hvk.1 hw.1 hw.2) [0] [0] 36 83 7 rfl rfl rfl rfl rfl rfl rfl rfl Tryd.func49 rfl rfl rfl rfl ⟨rfl, trivial⟩ rfl rfl ?_
          refine s1 12 91 8 rfl rfl rfl rfl rfl rfl trivial ?_
          refine e1 99 rfl ?_
          refine keep [0, 8, 9, 10, 11, 12] rfl ?_
          refine r1 ?_
          refine s1 37 99 1 rfl rfl rfl rfl rfl rfl trivial ?_
          refine s1 38 107 2 rfl rfl rfl rfl rfl rfl trivial ?_
          refine s1 39 115 3 rfl rfl rfl rfl rfl rfl trivial ?_
          refine s1 40 123 4 rfl rfl rfl rfl rfl rfl trivial ?_
          refine s1 41 131 5 rfl rfl rfl rfl rfl rfl (by first | trivial | omega | (simp only [List.length_map, List.length_append, List.length_cons, List.length_nil] at *; omega)) ?_
          refine s1 42 139 6 rfl rfl rfl rfl rfl rfl trivial ?_
          refine s1 43 147 7 rfl rfl rfl rfl rfl rfl (by first | trivial | omega | (simp only [List.length_map, List.length_append, List.length_cons, List.length_nil] at *; omega)) ?_
          refine val 43 (SV.i (l.getD i default).v) rfl (by first | rfl | (simp only [Nat.zero_add, Int.toNat_natCast])) ?_
          refine s1 44 155 8 rfl rfl rfl rfl rfl rfl trivial ?_
          refine s1 45 163 9 rfl rfl rfl rfl rfl rfl trivial ?_
          refine s1 46 171 10 rfl rfl rfl rfl rfl rfl ⟨Nat.le_refl _, trivial, (by show (bs.length + 1) * 16 ≤ 140737488355328; omega), (by simp only [maxLen]; omega)⟩ ?_
          refine s1 9 179 11 rfl rfl rfl rfl rfl rfl trivial ?_
          refine e1 187 rfl ?_
          refine keep [0, 8, 9, 10, 11, 12] rfl ?_
          refine rowsc 171 (bs ++ [(⟨flr (l.getD i default).t w, (l.getD i default).v⟩ : Smp)]).length (smpF (bs ++ [(⟨flr (l.getD i default).t w, (l.getD i default).v⟩ : Smp)])) rfl (by simp) (fun q c hq hc => cat_smp (s := ⟨flr (l.getD i default).t w, (l.getD i default).v⟩) q c hq hc) ?_
          refine cval 9 (.sl 171 0 (bs ++ [(⟨flr (l.getD i default).t w, (l.getD i default).v⟩ : Smp)]).length) rfl (by simp) ?_
          refine r1 ?_
          refine s1 13 187 1 rfl rfl rfl rfl rfl rfl trivial ?_
          refine e1 195 rfl ?_
          refine keep [0, 8, 9, 10, 11, 12, 13] rfl ?_
          refine W_seq ?_
          refine W_block ?_
          refine ghostly 13 3 1 (intF []) rfl ?_
          refine loop (α := Nat × List Int) 4 (fun z => [(0, smpV l), (8, .fn 49 [.ptr 0 0 0]), (9, .sl 1 0 (bs ++ [(⟨flr (l.getD i default).t w, (l.getD i default).v⟩ : Smp)]).length), (10, .sl 2 0 rs.length), (11, SV.i (z.1)), (12, SV.i (flr (l.getD i default).t w)), (13, .sl 3 0 (z.2).length)]) (fun z => [some (.cells 3 1 [SV.i w]), some (.rows 49 2 (bs ++ [(⟨flr (l.getD i default).t w, (l.getD i default).v⟩ : Smp)]).length (smpF (bs ++ [(⟨flr (l.getD i default).t w, (l.getD i default).v⟩ : Smp)]))), some (.rows 34 4 rs.length (rollF rs)), some (.rows 3 1 (z.2).length (intF (z.2)))]) (fun z => i ≤ (z.1) ∧ (z.1) ≤ l.length ∧ inBk l w i (z.1) bs rs (z.2) ∧ (z.2).length = (z.1) - i ∧ ∀ x ∈ (z.2), inV x) (fun z => l.length - (z.1)) (((i, []) : Nat × List Int)) [0, 171, 2, 195] (fun _ => rfl) (show i ≤ (i) ∧ (i) ≤ l.length ∧ inBk l w i (i) bs rs ([]) ∧ ([]).length = (i) - i ∧ ∀ x ∈ ([]), inV x from ⟨Nat.le_refl _, hi, .inl ⟨rfl, rfl, hb, hnw (by omega)⟩, by simp, fun x hx => by cases hx⟩) rfl ⟨rfl, rfl, rfl, rfl, rfl, rfl, rfl, trivial⟩ ⟨rfl, rfl, rfl, rfl, trivial⟩ (fun z hx => ?_)
          obtain ⟨j, vs⟩ := z
          show W _ _ _ ⟨tOf [(0, smpV l), (8, .fn 49 [.ptr 0 0 0]), (9, .sl 1 0 (bs ++ [(⟨flr (l.getD i default).t w, (l.getD i default).v⟩ : Smp)]).length), (10, .sl 2 0 rs.length), (11, SV.i j), (12, SV.i (flr (l.getD i default).t w)), (13, .sl 3 0 vs.length)], hOf [some (.cells 3 1 [SV.i w]), some (.rows 49 2 (bs ++ [(⟨flr (l.getD i default).t w, (l.getD i default).v⟩ : Smp)]).length (smpF (bs ++ [(⟨flr (l.getD i default).t w, (l.getD i default).v⟩ : Smp)]))), some (.rows 34 4 rs.length (rollF rs)), some (.rows 3 1 vs.length (intF vs))], 4⟩
          have hx : i ≤ j ∧ j ≤ l.length ∧ inBk l w i j bs rs vs ∧ vs.length = j - i ∧ ∀ x ∈ vs, inV x := hx
          obtain ⟨hij, hj, hib, hvl, hvi⟩ := hx
          refine W_seq ?_
          refine r1 ?_
          refine s1 47 4 1 rfl rfl rfl rfl rfl rfl trivial ?_
          refine s1 48 12 2 rfl rfl rfl rfl rfl rfl trivial ?_
          refine s1 49 20 3 rfl rfl rfl rfl rfl rfl (by first | trivial | omega | (simp only [List.length_map, List.length_append, List.length_cons, List.length_nil] at *; omega)) ?_
          refine s1 50 28 4 rfl rfl rfl rfl rfl rfl (by first | trivial | omega | (simp only [List.length_map, List.length_append, List.length_cons, List.length_nil] at *; omega)) ?_
          refine s1 51 36 5 rfl rfl rfl rfl rfl rfl trivial ?_
          refine ask 51 rfl (fun hg14_51 => ?_) (fun hg14_51 => ?_)
          · skip
            try simp only [decide_eq_true_eq, decide_eq_false_iff_not, Bool.not_eq_true', Bool.not_eq_false', beq_iff_eq, bne_iff_ne, beq_eq_false_iff_ne, Bool.and_eq_true, Bool.or_eq_true, Bool.and_eq_false_iff, Bool.or_eq_false_iff, ge_iff_le, gt_iff_lt, Int.not_lt, Int.not_le, ne_eq, Decidable.not_not, bne_eq_false_iff_eq] at hg14_51
            refine g1 4 true 51 52 6 rfl rfl rfl rfl rfl ?_
            refine s1 52 44 6 rfl rfl rfl rfl rfl rfl trivial ?_
            refine g1 4 true 51 53 7 rfl rfl rfl rfl rfl ?_
            refine s1 53 52 7 rfl rfl rfl rfl rfl rfl trivial ?_
            refine g1 4 true 51 54 8 rfl rfl rfl rfl rfl ?_
            refine s1 54 60 8 rfl rfl rfl rfl rfl rfl trivial ?_
            refine g1 4 true 51 55 9 rfl rfl rfl rfl rfl ?_
            refine s1 55 68 9 rfl rfl rfl rfl rfl rfl (by first | trivial | omega | (simp only [List.length_map, List.length_append, List.length_cons, List.length_nil] at *; omega)) ?_
            refine g1 4 true 51 56 10 rfl rfl rfl rfl rfl ?_
            refine s1 56 76 10 rfl rfl rfl rfl rfl rfl trivial ?_
            refine g1 4 true 51 57 11 rfl rfl rfl rfl rfl ?_
            refine s1 57 84 11 rfl rfl rfl rfl rfl rfl (by first | trivial | omega | (simp only [List.length_map, List.length_append, List.length_cons, List.length_nil] at *; omega)) ?_
            refine val 57 (SV.i (l.getD j default).t) rfl (by first | rfl | (simp only [Nat.zero_add, Int.toNat_natCast])) ?_
            refine g1 4 true 51 58 12 rfl rfl rfl rfl rfl ?_
            refine c1 (begin_any (l.getD j default).t w (hv j (by omega)).1 hw.1 hw.2) [0] [0] 58 92 12 rfl rfl rfl rfl rfl rfl rfl rfl Tryd.func49 rfl rfl rfl rfl ⟨rfl, trivial⟩ rfl rfl ?_
            refine g1 4 true 51 59 13 rfl rfl rfl rfl rfl ?_
            refine s1 59 100 13 rfl rfl rfl rfl rfl rfl trivial ?_
            refine g1 4 true 51 60 14 rfl rfl rfl rfl rfl ?_
            refine s1 60 108 14 rfl rfl rfl rfl rfl rfl (by first | trivial | omega | (simp only [List.length_map, List.length_append, List.length_cons, List.length_nil] at *; omega)) ?_
            refine s1 61 116 15 rfl rfl rfl rfl rfl rfl trivial ?_
            refine e1 124 rfl ?_
            refine keep [0, 8, 9, 10, 11, 12, 13, 61] rfl ?_
            refine q1 rfl (fun hc14 => ?_) (fun hc14 => ?_)
            · skip
              try simp only [decide_eq_true_eq, decide_eq_false_iff_not, Bool.not_eq_true', Bool.not_eq_false', beq_iff_eq, bne_iff_ne, beq_eq_false_iff_ne, Bool.and_eq_true, Bool.or_eq_true, Bool.and_eq_false_iff, Bool.or_eq_false_iff, ge_iff_le, gt_iff_lt, Int.not_lt, Int.not_le, ne_eq, Decidable.not_not, bne_eq_false_iff_eq] at hc14
              refine W_skip ?_
              refine tn ?_
              refine W_block ?_
              refine r1 ?_
              refine s1 62 124 1 rfl rfl rfl rfl rfl rfl trivial ?_
              refine s1 63 132 2 rfl rfl rfl rfl rfl rfl trivial ?_
              refine s1 64 140 3 rfl rfl rfl rfl rfl rfl trivial ?_
              refine s1 65 148 4 rfl rfl rfl rfl rfl rfl (by first | trivial | omega | (simp only [List.length_map, List.length_append, List.length_cons, List.length_nil] at *; omega)) ?_
              refine s1 66 156 5 rfl rfl rfl rfl rfl rfl trivial ?_
              refine s1 67 164 6 rfl rfl rfl rfl rfl rfl (by first | trivial | omega | (simp only [List.length_map, List.length_append, List.length_cons, List.length_nil] at *; omega)) ?_
              refine val 67 (SV.i (l.getD j default).v) rfl (by first | rfl | (simp only [Nat.zero_add, Int.toNat_natCast])) ?_
              refine s1 68 172 7 rfl rfl rfl rfl rfl rfl trivial ?_
              refine s1 69 180 8 rfl rfl rfl rfl rfl rfl ⟨Nat.le_refl _, trivial, (by show (vs.length + 1) * 8 ≤ 140737488355328; omega), (by simp only [maxLen]; omega)⟩ ?_
              refine s1 13 188 9 rfl rfl rfl rfl rfl rfl trivial ?_
              refine e1 196 rfl ?_
              refine keep [0, 8, 9, 10, 11, 12, 13] rfl ?_
              refine rowsc 180 (vs ++ [(l.getD j default).v]).length (intF (vs ++ [(l.getD j default).v])) rfl (by simp) (fun q c hq hc => cat_one rfl q c hq hc) ?_
              refine cval 13 (.sl 180 0 (vs ++ [(l.getD j default).v]).length) rfl (by simp) ?_
              refine r0 ?_
              refine s1 70 196 1 rfl rfl rfl rfl rfl rfl trivial ?_
              refine sA 71 204 2 rfl rfl rfl rfl rfl rfl rfl rfl rfl (by unfold inRange; omega) ?_
              refine s1 11 212 3 rfl rfl rfl rfl rfl rfl trivial ?_
              refine e1 220 rfl ?_
              refine bn ?_
              refine tn ?_
              exact again (((j + 1, vs ++ [(l.getD j default).v]) : Nat × List Int)) [0, 1, 2, 180] (show i ≤ (j + 1) ∧ (j + 1) ≤ l.length ∧ inBk l w i (j + 1) bs rs (vs ++ [(l.getD j default).v]) ∧ (vs ++ [(l.getD j default).v]).length = (j + 1) - i ∧ ∀ x ∈ (vs ++ [(l.getD j default).v]), inV x from ⟨by omega, by omega, inBk_step hib (by omega), by rw [List.length_append]; show vs.length + 1 = _; omega, fun x hx => by rcases List.mem_append.1 hx with h | h; exact hvi x h; (rw [List.mem_singleton.1 h]; exact (hv j (by omega)).2)⟩) (show l.length - (j + 1) < l.length - j from (by omega)) rfl ⟨rfl, rfl, rfl, rfl, rfl, rfl, rfl, trivial⟩ ⟨rfl, rfl, rfl, rfl, trivial⟩
            · skip
              try simp only [decide_eq_true_eq, decide_eq_false_iff_not, Bool.not_eq_true', Bool.not_eq_false', beq_iff_eq, bne_iff_ne, beq_eq_false_iff_ne, Bool.and_eq_true, Bool.or_eq_true, Bool.and_eq_false_iff, Bool.or_eq_false_iff, ge_iff_le, gt_iff_lt, Int.not_lt, Int.not_le, ne_eq, Decidable.not_not, bne_eq_false_iff_eq] at hc14
              refine W_exit ?_
              refine tx ?_
              refine tx ?_
              refine bx ?_
              refine tn ?_
              have hji : i < j := (by rcases hib with h | h; (exfalso; obtain ⟨rfl, _⟩ := h; omega); exact h.1)
              have hvs : ∀ q, q < vs.length → inV (vs.getD q 0) := (fun q hq => by rw [show vs.getD q 0 = vs[q] from by simp [List.getD, hq]]; exact hvi _ (List.getElem_mem hq))
              refine freeze 13 3 vs.length rfl rfl (Nat.le_refl _) ?_
              refine r0n ?_
              refine s1 72 124 1 rfl rfl rfl rfl rfl rfl trivial ?_
              refine s1 73 132 2 rfl rfl rfl rfl rfl rfl trivial ?_
              refine c1 (refOf_any vs (by omega) (fun n hn => by have := fold_s hvs n hn; exact ⟨by omega, by omega⟩)) [] [] 74 140 3 rfl rfl rfl rfl rfl rfl rfl rfl Tryd.func46 rfl rfl rfl rfl trivial rfl rfl ?_
              refine s1 75 148 4 rfl rfl rfl rfl rfl rfl trivial ?_
              refine s1 76 156 5 rfl rfl rfl rfl rfl rfl ⟨Nat.le_refl _, trivial, (by show (rs.length + 1) * 32 ≤ 140737488355328; omega), (by simp only [maxLen]; omega)⟩ ?_
              refine s1 10 164 6 rfl rfl rfl rfl rfl rfl trivial ?_
              refine e1 172 rfl ?_
              refine rowscn 156 (rs ++ [foldTo vs vs.length]).length (rollF (rs ++ [foldTo vs vs.length])) rfl (by simp) (fun q c hq hc => cat_roll (r := foldTo vs vs.length) q c hq hc) ?_
              refine cvaln 10 (.sl 156 0 (rs ++ [foldTo vs vs.length]).length) rfl (by simp) ?_
              refine wn ?_
              refine bn ?_
              refine tn ?_
              exact again (((j, (bs ++ [(⟨flr (l.getD i default).t w, (l.getD i default).v⟩ : Smp)]), rs ++ [foldTo vs vs.length]) : Nat × List Smp × List Roll)) [0, 1, 156] (show (j) ≤ l.length ∧ bk l w (j) = (((bs ++ [(⟨flr (l.getD i default).t w, (l.getD i default).v⟩ : Smp)])), (rs ++ [foldTo vs vs.length])) ∧ ((j) < l.length → isNew ((bs ++ [(⟨flr (l.getD i default).t w, (l.getD i default).v⟩ : Smp)])) (flr (l.getD (j) default).t w)) from ⟨by omega, (by rcases hib with h | h; exact absurd h.1 (by omega); exact h.2), fun hjl => .inr (by rw [last_snoc]; show flr (l.getD i default).t w ≠ flr (l.getD j default).t w; omega)⟩) (show l.length - (j) < l.length - i from (by omega)) rfl ⟨rfl, rfl, rfl, rfl, rfl, trivial⟩ ⟨rfl, rfl, rfl, trivial⟩
          · skip
            try simp only [decide_eq_true_eq, decide_eq_false_iff_not, Bool.not_eq_true', Bool.not_eq_false', beq_iff_eq, bne_iff_ne, beq_eq_false_iff_ne, Bool.and_eq_true, Bool.or_eq_true, Bool.and_eq_false_iff, Bool.or_eq_false_iff, ge_iff_le, gt_iff_lt, Int.not_lt, Int.not_le, ne_eq, Decidable.not_not, bne_eq_false_iff_eq] at hg14_51
            refine g0 4 true 51 52 6 rfl rfl rfl rfl rfl rfl ?_
            refine g0 4 true 51 53 7 rfl rfl rfl rfl rfl rfl ?_
            refine g0 4 true 51 54 8 rfl rfl rfl rfl rfl rfl ?_
            refine g0 4 true 51 55 9 rfl rfl rfl rfl rfl rfl ?_
            refine g0 4 true 51 56 10 rfl rfl rfl rfl rfl rfl ?_
            refine g0 4 true 51 57 11 rfl rfl rfl rfl rfl rfl ?_
            refine g0 4 true 51 58 12 rfl rfl rfl rfl rfl rfl ?_
            refine g0 4 true 51 59 13 rfl rfl rfl rfl rfl rfl ?_
            refine g0 4 true 51 60 14 rfl rfl rfl rfl rfl rfl ?_
            refine s1 61 116 15 rfl rfl rfl rfl rfl rfl trivial ?_
            refine e1 124 rfl ?_
            refine keep [0, 8, 9, 10, 11, 12, 13, 61] rfl ?_
            refine q1 rfl (fun hc14 => ?_) (fun hc14 => ?_)
            · skip
              exact absurd hc14 (by decide)
            · skip
              try simp only [decide_eq_true_eq, decide_eq_false_iff_not, Bool.not_eq_true', Bool.not_eq_false', beq_iff_eq, bne_iff_ne, beq_eq_false_iff_ne, Bool.and_eq_true, Bool.or_eq_true, Bool.and_eq_false_iff, Bool.or_eq_false_iff, ge_iff_le, gt_iff_lt, Int.not_lt, Int.not_le, ne_eq, Decidable.not_not, bne_eq_false_iff_eq] at hc14
              refine W_exit ?_
              refine tx ?_
              refine tx ?_
              refine bx ?_
              refine tn ?_
              have hji : i < j := (by rcases hib with h | h; (exfalso; obtain ⟨rfl, _⟩ := h; omega); exact h.1)
              have hvs : ∀ q, q < vs.length → inV (vs.getD q 0) := (fun q hq => by rw [show vs.getD q 0 = vs[q] from by simp [List.getD, hq]]; exact hvi _ (List.getElem_mem hq))
              refine freeze 13 3 vs.length rfl rfl (Nat.le_refl _) ?_
              refine r0n ?_
              refine s1 72 124 1 rfl rfl rfl rfl rfl rfl trivial ?_
              refine s1 73 132 2 rfl rfl rfl rfl rfl rfl trivial ?_
              refine c1 (refOf_any vs (by omega) (fun n hn => by have := fold_s hvs n hn; exact ⟨by omega, by omega⟩)) [] [] 74 140 3 rfl rfl rfl rfl rfl rfl rfl rfl Tryd.func46 rfl rfl rfl rfl trivial rfl rfl ?_
              refine s1 75 148 4 rfl rfl rfl rfl rfl rfl trivial ?_
              refine s1 76 156 5 rfl rfl rfl rfl rfl rfl ⟨Nat.le_refl _, trivial, (by show (rs.length + 1) * 32 ≤ 140737488355328; omega), (by simp only [maxLen]; omega)⟩ ?_
              refine s1 10 164 6 rfl rfl rfl rfl rfl rfl trivial ?_
              refine e1 172 rfl ?_
              refine rowscn 156 (rs ++ [foldTo vs vs.length]).length (rollF (rs ++ [foldTo vs vs.length])) rfl (by simp) (fun q c hq hc => cat_roll (r := foldTo vs vs.length) q c hq hc) ?_
              refine cvaln 10 (.sl 156 0 (rs ++ [foldTo vs vs.length]).length) rfl (by simp) ?_
              refine wn ?_
              refine bn ?_
              refine tn ?_
              exact again (((j, (bs ++ [(⟨flr (l.getD i default).t w, (l.getD i default).v⟩ : Smp)]), rs ++ [foldTo vs vs.length]) : Nat × List Smp × List Roll)) [0, 1, 156] (show (j) ≤ l.length ∧ bk l w (j) = (((bs ++ [(⟨flr (l.getD i default).t w, (l.getD i default).v⟩ : Smp)])), (rs ++ [foldTo vs vs.length])) ∧ ((j) < l.length → isNew ((bs ++ [(⟨flr (l.getD i default).t w, (l.getD i default).v⟩ : Smp)])) (flr (l.getD (j) default).t w)) from ⟨by omega, (by rcases hib with h | h; exact absurd h.1 (by omega); exact h.2), fun hjl => .inr (by rw [last_snoc]; show flr (l.getD i default).t w ≠ flr (l.getD j default).t w; omega)⟩) (show l.length - (j) < l.length - i from (by omega)) rfl ⟨rfl, rfl, rfl, rfl, rfl, trivial⟩ ⟨rfl, rfl, rfl, trivial⟩
        · skip
          try simp only [decide_eq_true_eq, decide_eq_false_iff_not, Bool.not_eq_true', Bool.not_eq_false', beq_iff_eq, bne_iff_ne, beq_eq_false_iff_ne, Bool.and_eq_true, Bool.or_eq_true, Bool.and_eq_false_iff, Bool.or_eq_false_iff, ge_iff_le, gt_iff_lt, Int.not_lt, Int.not_le, ne_eq, Decidable.not_not, bne_eq_false_iff_eq] at hc10
          refine W_exit ?_
          refine tx ?_
          refine tx ?_
          refine bx ?_
          refine tn ?_
          refine W_seq ?_
          obtain rfl : i = l.length := (by omega)
          obtain ⟨rfl, rfl⟩ : bs = (bk l w l.length).1 ∧ rs = (bk l w l.length).2 := (by rw [hb]; exact ⟨rfl, rfl⟩)
          refine r1 ?_
          refine s1 77 35 1 rfl rfl rfl rfl rfl rfl trivial ?_
          refine s1 78 43 2 rfl rfl rfl rfl rfl rfl (by first | trivial | omega | (simp only [List.length_map, List.length_append, List.length_cons, List.length_nil] at *; omega)) ?_
          refine s1 79 51 3 rfl rfl rfl rfl rfl rfl (by first | trivial | omega | (simp only [List.length_map, List.length_append, List.length_cons, List.length_nil] at *; omega)) ?_
          refine e1 59 rfl ?_
          refine keep [9, 10, 79] rfl ?_
          refine q1 rfl (fun hc18 => ?_) (fun hc18 => ?_)
          · skip
            exfalso; simp at hc18; omega
          · skip
            try simp only [decide_eq_true_eq, decide_eq_false_iff_not, Bool.not_eq_true', Bool.not_eq_false', beq_iff_eq, bne_iff_ne, beq_eq_false_iff_ne, Bool.and_eq_true, Bool.or_eq_true, Bool.and_eq_false_iff, Bool.or_eq_false_iff, ge_iff_le, gt_iff_lt, Int.not_lt, Int.not_le, ne_eq, Decidable.not_not, bne_eq_false_iff_eq] at hc18
            refine W_skip ?_
            refine tn ?_
            refine r1 ?_
            refine s1 80 59 1 rfl rfl rfl rfl rfl rfl trivial ?_
            refine s1 81 67 2 rfl rfl rfl rfl rfl rfl trivial ?_
            refine s1 4 75 3 rfl rfl rfl rfl rfl rfl trivial ?_
            refine s1 5 83 4 rfl rfl rfl rfl rfl rfl trivial ?_
            refine s1 6 91 5 rfl rfl rfl rfl rfl rfl trivial ?_
            refine e1 99 rfl ?_
            refine keep [4, 5, 6] rfl ?_
            refine W_ret ?_
            exact out3 4 5 6 (.sl 0 0 (bk l w l.length).1.length) (.sl 1 0 (bk l w l.length).2.length) (SV.i 0) (π := [1, 2]) (hout := [some (.rows 49 2 (bk l w l.length).1.length (smpF (bk l w l.length).1)), some (.rows 34 4 (bk l w l.length).2.length (rollF (bk l w l.length).2))]) Tryd.results19 rfl rfl rfl rfl rfl rfl rfl rfl ⟨rfl, rfl, trivial⟩ ⟨rfl, rfl⟩

theorem refBuck_full (l : List Smp) (hin : SmpIn l) (w : Int) (hwi : inRange w) (hw : 1 ≤ w ∧ w ≤ 1048576) (hz : sfault l = 0) (hn : 100 < (bk l w l.length).1.length) : Spec Tryd.prog GC 19 [smpV l, SV.i w] [] (fun r ho => r = SV.tup [.d .nils, .d .nils, SV.i (bucE l w)] ∧ ho = []) := by
  have hp0 := sf_parts hz
  have hv := samp_in hz
  refine start 82 0 Tryd.func19 rfl rfl rfl rfl ?_
  refine r1 ?_
  refine s1 3 0 1 rfl rfl rfl rfl rfl rfl trivial ?_
  refine s1 4 8 2 rfl rfl rfl rfl rfl rfl trivial ?_
  refine s1 5 16 3 rfl rfl rfl rfl rfl rfl trivial ?_
  refine s1 6 24 4 rfl rfl rfl rfl rfl rfl trivial ?_
  refine e1 32 rfl ?_
  refine keep [0, 3] rfl ?_
  refine W_seq ?_
  refine r1 ?_
  refine s1 14 32 1 rfl rfl rfl rfl rfl rfl (by first | trivial | omega | (simp only [List.length_map, List.length_append, List.length_cons, List.length_nil] at *; omega)) ?_
  refine s1 15 40 2 rfl rfl rfl rfl rfl rfl (by first | trivial | omega | (simp only [List.length_map, List.length_append, List.length_cons, List.length_nil] at *; omega)) ?_
  refine s1 16 48 3 rfl rfl rfl rfl rfl rfl trivial ?_
  refine ask 16 rfl (fun hg1_16 => ?_) (fun hg1_16 => ?_)
  · skip
    try simp only [decide_eq_true_eq, decide_eq_false_iff_not, Bool.not_eq_true', Bool.not_eq_false', beq_iff_eq, bne_iff_ne, beq_eq_false_iff_ne, Bool.and_eq_true, Bool.or_eq_true, Bool.and_eq_false_iff, Bool.or_eq_false_iff, ge_iff_le, gt_iff_lt, Int.not_lt, Int.not_le, ne_eq, Decidable.not_not, bne_eq_false_iff_eq] at hg1_16
    refine g0 2 false 16 17 4 rfl rfl rfl rfl rfl rfl ?_
    refine g0 2 false 16 18 5 rfl rfl rfl rfl rfl rfl ?_
    refine s1 19 72 6 rfl rfl rfl rfl rfl rfl trivial ?_
    refine e1 80 rfl ?_
    refine keep [0, 3, 19] rfl ?_
    refine q1 rfl (fun hc1 => ?_) (fun hc1 => ?_)
    · skip
      exfalso; simp at hc1; omega
    · skip
      exact absurd hc1 (by decide)
  · skip
    try simp only [decide_eq_true_eq, decide_eq_false_iff_not, Bool.not_eq_true', Bool.not_eq_false', beq_iff_eq, bne_iff_ne, beq_eq_false_iff_ne, Bool.and_eq_true, Bool.or_eq_true, Bool.and_eq_false_iff, Bool.or_eq_false_iff, ge_iff_le, gt_iff_lt, Int.not_lt, Int.not_le, ne_eq, Decidable.not_not, bne_eq_false_iff_eq] at hg1_16
    refine g1 2 false 16 17 4 rfl rfl rfl rfl rfl ?_
    refine s1 17 56 4 rfl rfl rfl rfl rfl rfl (by first | trivial | omega | (simp only [List.length_map, List.length_append, List.length_cons, List.length_nil] at *; omega)) ?_
    refine g1 2 false 16 18 5 rfl rfl rfl rfl rfl ?_
    refine s1 18 64 5 rfl rfl rfl rfl rfl rfl (by first | trivial | omega | (simp only [List.length_map, List.length_append, List.length_cons, List.length_nil] at *; omega)) ?_
    refine s1 19 72 6 rfl rfl rfl rfl rfl rfl trivial ?_
    refine e1 80 rfl ?_
    refine keep [0, 3, 19] rfl ?_
    refine q1 rfl (fun hc1 => ?_) (fun hc1 => ?_)
    · skip
      exfalso; simp at hc1; omega
    · skip
      try simp only [decide_eq_true_eq, decide_eq_false_iff_not, Bool.not_eq_true', Bool.not_eq_false', beq_iff_eq, bne_iff_ne, beq_eq_false_iff_ne, Bool.and_eq_true, Bool.or_eq_true, Bool.and_eq_false_iff, Bool.or_eq_false_iff, ge_iff_le, gt_iff_lt, Int.not_lt, Int.not_le, ne_eq, Decidable.not_not, bne_eq_false_iff_eq] at hc1
      refine W_skip ?_
      refine tn ?_
      refine W_seq ?_
      refine r1 ?_
      refine s1 20 80 1 rfl rfl rfl rfl rfl rfl trivial ?_
      refine c1 (sfault_any l hin) [] [] 21 88 2 rfl rfl rfl rfl rfl rfl rfl rfl Tryd.func32 rfl rfl rfl rfl trivial rfl rfl ?_
      refine s1 7 96 3 rfl rfl rfl rfl rfl rfl trivial ?_
      refine e1 104 rfl ?_
      refine keep [0, 3, 7] rfl ?_
      refine r1 ?_
      refine s1 22 104 1 rfl rfl rfl rfl rfl rfl trivial ?_
      refine s1 23 112 2 rfl rfl rfl rfl rfl rfl (by first | trivial | omega | (simp only [List.length_map, List.length_append, List.length_cons, List.length_nil] at *; omega)) ?_
      refine e1 120 rfl ?_
      refine keep [0, 3, 7, 23] rfl ?_
      refine q1 rfl (fun hc4 => ?_) (fun hc4 => ?_)
      · skip
        exact absurd hz (by simpa using hc4)
      · skip
        try simp only [decide_eq_true_eq, decide_eq_false_iff_not, Bool.not_eq_true', Bool.not_eq_false', beq_iff_eq, bne_iff_ne, beq_eq_false_iff_ne, Bool.and_eq_true, Bool.or_eq_true, Bool.and_eq_false_iff, Bool.or_eq_false_iff, ge_iff_le, gt_iff_lt, Int.not_lt, Int.not_le, ne_eq, Decidable.not_not, bne_eq_false_iff_eq] at hc4
        refine W_skip ?_
        refine tn ?_
        refine r1 ?_
        refine s1 25 120 1 rfl rfl rfl rfl rfl rfl trivial ?_
        refine s1 8 128 2 rfl rfl rfl rfl rfl rfl trivial ?_
        refine e1 136 rfl ?_
        refine keep [0, 8] rfl ?_
        refine r1 ?_
        refine s1 9 136 1 rfl rfl rfl rfl rfl rfl trivial ?_
        refine e1 144 rfl ?_
        refine keep [0, 8, 9] rfl ?_
        refine r1 ?_
        refine s1 10 144 1 rfl rfl rfl rfl rfl rfl trivial ?_
        refine e1 152 rfl ?_
        refine keep [0, 8, 9, 10] rfl ?_
        refine W_seq ?_
        refine r1 ?_
        refine s1 11 152 1 rfl rfl rfl rfl rfl rfl trivial ?_
        refine e1 160 rfl ?_
        refine keep [0, 8, 9, 10, 11] rfl ?_
        refine W_block ?_
        refine ghostly 9 49 2 (smpF []) rfl ?_
        refine ghostly 10 34 4 (rollF []) rfl ?_
        refine loop (α := Nat × List Smp × List Roll) 3 (fun z => [(0, smpV l), (8, .fn 49 [.ptr 0 0 0]), (9, .sl 1 0 (z.2.1).length), (10, .sl 2 0 (z.2.2).length), (11, SV.i (z.1))]) (fun z => [some (.cells 3 1 [SV.i w]), some (.rows 49 2 (z.2.1).length (smpF (z.2.1))), some (.rows 34 4 (z.2.2).length (rollF (z.2.2)))]) (fun z => (z.1) ≤ l.length ∧ bk l w (z.1) = ((z.2.1), (z.2.2)) ∧ ((z.1) < l.length → isNew (z.2.1) (flr (l.getD (z.1) default).t w))) (fun z => l.length - (z.1)) (((0, [], []) : Nat × List Smp × List Roll)) [0, 160, 168] (fun _ => rfl) (show (0) ≤ l.length ∧ bk l w (0) = (([]), ([])) ∧ ((0) < l.length → isNew ([]) (flr (l.getD (0) default).t w)) from ⟨Nat.zero_le _, rfl, fun _ => .inl rfl⟩) rfl ⟨rfl, rfl, rfl, rfl, rfl, trivial⟩ ⟨rfl, rfl, rfl, trivial⟩ (fun z hx => ?_)
        obtain ⟨i, bs, rs⟩ := z
        show W _ _ _ ⟨tOf [(0, smpV l), (8, .fn 49 [.ptr 0 0 0]), (9, .sl 1 0 bs.length), (10, .sl 2 0 rs.length), (11, SV.i i)], hOf [some (.cells 3 1 [SV.i w]), some (.rows 49 2 bs.length (smpF bs)), some (.rows 34 4 rs.length (rollF rs))], 3⟩
        have hx : i ≤ l.length ∧ bk l w i = (bs, rs) ∧ (i < l.length → isNew bs (flr (l.getD i default).t w)) := hx
        obtain ⟨hi, hb, hnw⟩ := hx
        have hlk := bk_len l w i
        rw [hb] at hlk
        have hl1 : bs.length = rs.length ∧ rs.length ≤ i := hlk
        clear hlk
        refine W_seq ?_
        refine r1 ?_
        refine s1 26 3 1 rfl rfl rfl rfl rfl rfl trivial ?_
        refine s1 27 11 2 rfl rfl rfl rfl rfl rfl trivial ?_
        refine s1 28 19 3 rfl rfl rfl rfl rfl rfl (by first | trivial | omega | (simp only [List.length_map, List.length_append, List.length_cons, List.length_nil] at *; omega)) ?_
        refine s1 29 27 4 rfl rfl rfl rfl rfl rfl (by first | trivial | omega | (simp only [List.length_map, List.length_append, List.length_cons, List.length_nil] at *; omega)) ?_
        refine e1 35 rfl ?_
        refine keep [0, 8, 9, 10, 11, 29] rfl ?_
        refine q1 rfl (fun hc10 => ?_) (fun hc10 => ?_)
        · skip
          try simp only [decide_eq_true_eq, decide_eq_false_iff_not, Bool.not_eq_true', Bool.not_eq_false', beq_iff_eq, bne_iff_ne, beq_eq_false_iff_ne, Bool.and_eq_true, Bool.or_eq_true, Bool.and_eq_false_iff, Bool.or_eq_false_iff, ge_iff_le, gt_iff_lt, Int.not_lt, Int.not_le, ne_eq, Decidable.not_not, bne_eq_false_iff_eq] at hc10
          have hvk := hv i (by omega)
          refine W_skip ?_
          refine tn ?_
          refine W_block ?_
          refine r1 ?_
          refine s1 30 35 1 rfl rfl rfl rfl rfl rfl trivial ?_
          refine s1 31 43 2 rfl rfl rfl rfl rfl rfl trivial ?_
          refine s1 32 51 3 rfl rfl rfl rfl rfl rfl trivial ?_
          refine s1 33 59 4 rfl rfl rfl rfl rfl rfl (by first | trivial | omega | (simp only [List.length_map, List.length_append, List.length_cons, List.length_nil] at *; omega)) ?_
          refine s1 34 67 5 rfl rfl rfl rfl rfl rfl trivial ?_
          refine s1 35 75 6 rfl rfl rfl rfl rfl rfl (by first | trivial | omega | (simp only [List.length_map, List.length_append, List.length_cons, List.length_nil] at *; omega)) ?_
          refine val 35 (SV.i (l.getD i default).t) rfl (by first | rfl | (simp only [Nat.zero_add, Int.toNat_natCast])) ?_
          refine c1 (begin_any (l.getD i default).t w hvk.1 hw.1 hw.2) [0] [0] 36 83 7 rfl rfl rfl rfl rfl rfl rfl rfl Tryd.func49 rfl rfl rfl rfl ⟨rfl, trivial⟩ rfl rfl ?_
          refine s1 12 91 8 rfl rfl rfl rfl rfl rfl trivial ?_
          refine e1 99 rfl ?_
          refine keep [0, 8, 9, 10, 11, 12] rfl ?_
          refine r1 ?_
          refine s1 37 99 1 rfl rfl rfl rfl rfl rfl trivial ?_
          refine s1 38 107 2 rfl rfl rfl rfl rfl rfl trivial ?_
          refine s1 39 115 3 rfl rfl rfl rfl rfl rfl trivial ?_
          refine s1 40 123 4 rfl rfl rfl rfl rfl rfl trivial ?_
          refine s1 41 131 5 rfl rfl rfl rfl rfl rfl (by first | trivial | omega | (simp only [List.length_map, List.length_append, List.length_cons, List.length_nil] at *; omega)) ?_
          refine s1 42 139 6 rfl rfl rfl rfl rfl rfl trivial ?_
          refine s1 43 147 7 rfl rfl rfl rfl rfl rfl (by first | trivial | omega | (simp only [List.length_map, List.length_append, List.length_cons, List.length_nil] at *; omega)) ?_
          refine val 43 (SV.i (l.getD i default).v) rfl (by first | rfl | (simp only [Nat.zero_add, Int.toNat_natCast])) ?_
          refine s1 44 155 8 rfl rfl rfl rfl rfl rfl trivial ?_
          refine s1 45 163 9 rfl rfl rfl rfl rfl rfl trivial ?_
          refine s1 46 171 10 rfl rfl rfl rfl rfl rfl ⟨Nat.le_refl _, trivial, (by show (bs.length + 1) * 16 ≤ 140737488355328; omega), (by simp only [maxLen]; omega)⟩ ?_
          refine s1 9 179 11 rfl rfl rfl rfl rfl rfl trivial ?_
          refine e1 187 rfl ?_
          refine keep [0, 8, 9, 10, 11, 12] rfl ?_
          refine rowsc 171 (bs ++ [(⟨flr (l.getD i default).t w, (l.getD i default).v⟩ : Smp)]).length (smpF (bs ++ [(⟨flr (l.getD i default).t w, (l.getD i default).v⟩ : Smp)])) rfl (by simp) (fun q c hq hc => cat_smp (s := ⟨flr (l.getD i default).t w, (l.getD i default).v⟩) q c hq hc) ?_
          refine cval 9 (.sl 171 0 (bs ++ [(⟨flr (l.getD i default).t w, (l.getD i default).v⟩ : Smp)]).length) rfl (by simp) ?_
          refine r1 ?_
          refine s1 13 187 1 rfl rfl rfl rfl rfl rfl trivial ?_
          refine e1 195 rfl ?_
          refine keep [0, 8, 9, 10, 11, 12, 13] rfl ?_
          refine W_seq ?_
          refine W_block ?_
          refine ghostly 13 3 1 (intF []) rfl ?_
          refine loop (α := Nat × List Int) 4 (fun z => [(0, smpV l), (8, .fn 49 [.ptr 0 0 0]), (9, .sl 1 0 (bs ++ [(⟨flr (l.getD i default).t w, (l.getD i default).v⟩ : Smp)]).length), (10, .sl 2 0 rs.length), (11, SV.i (z.1)), (12, SV.i (flr (l.getD i default).t w)), (13, .sl 3 0 (z.2).length)]) (fun z => [some (.cells 3 1 [SV.i w]), some (.rows 49 2 (bs ++ [(⟨flr (l.getD i default).t w, (l.getD i default).v⟩ : Smp)]).length (smpF (bs ++ [(⟨flr (l.getD i default).t w, (l.getD i default).v⟩ : Smp)]))), some (.rows 34 4 rs.length (rollF rs)), some (.rows 3 1 (z.2).length (intF (z.2)))]) (fun z => i ≤ (z.1) ∧ (z.1) ≤ l.length ∧ inBk l w i (z.1) bs rs (z.2) ∧ (z.2).length = (z.1) - i ∧ ∀ x ∈ (z.2), inV x) (fun z => l.length - (z.1)) (((i, []) : Nat × List Int)) [0, 171, 2, 195] (fun _ => rfl) (show i ≤ (i) ∧ (i) ≤ l.length ∧ inBk l w i (i) bs rs ([]) ∧ ([]).length = (i) - i ∧ ∀ x ∈ ([]), inV x from ⟨Nat.le_refl _, hi, .inl ⟨rfl, rfl, hb, hnw (by omega)⟩, by simp, fun x hx => by cases hx⟩) rfl ⟨rfl, rfl, rfl, rfl, rfl, rfl, rfl, trivial⟩ ⟨rfl, rfl, rfl, rfl, trivial⟩ (fun z hx => ?_)
          obtain ⟨j, vs⟩ := z
          show W _ _ _ ⟨tOf [(0, smpV l), (8, .fn 49 [.ptr 0 0 0]), (9, .sl 1 0 (bs ++ [(⟨flr (l.getD i default).t w, (l.getD i default).v⟩ : Smp)]).length), (10, .sl 2 0 rs.length), (11, SV.i j), (12, SV.i (flr (l.getD i default).t w)), (13, .sl 3 0 vs.length)], hOf [some (.cells 3 1 [SV.i w]), some (.rows 49 2 (bs ++ [(⟨flr (l.getD i default).t w, (l.getD i default).v⟩ : Smp)]).length (smpF (bs ++ [(⟨flr (l.getD i default).t w, (l.getD i default).v⟩ : Smp)]))), some (.rows 34 4 rs.length (rollF rs)), some (.rows 3 1 vs.length (intF vs))], 4⟩
          have hx : i ≤ j ∧ j ≤ l.length ∧ inBk l w i j bs rs vs ∧ vs.length = j - i ∧ ∀ x ∈ vs, inV x := hx
          obtain ⟨hij, hj, hib, hvl, hvi⟩ := hx
          refine W_seq ?_
          refine r1 ?_
          refine s1 47 4 1 rfl rfl rfl rfl rfl rfl trivial ?_
          refine s1 48 12 2 rfl rfl rfl rfl rfl rfl trivial ?_
          refine s1 49 20 3 rfl rfl rfl rfl rfl rfl (by first | trivial | omega | (simp only [List.length_map, List.length_append, List.length_cons, List.length_nil] at *; omega)) ?_
          refine s1 50 28 4 rfl rfl rfl rfl rfl rfl (by first | trivial | omega | (simp only [List.length_map, List.length_append, List.length_cons, List.length_nil] at *; omega)) ?_
          refine s1 51 36 5 rfl rfl rfl rfl rfl rfl trivial ?_
          refine ask 51 rfl (fun hg14_51 => ?_) (fun hg14_51 => ?_)
          · skip
            try simp only [decide_eq_true_eq, decide_eq_false_iff_not, Bool.not_eq_true', Bool.not_eq_false', beq_iff_eq, bne_iff_ne, beq_eq_false_iff_ne, Bool.and_eq_true, Bool.or_eq_true, Bool.and_eq_false_iff, Bool.or_eq_false_iff, ge_iff_le, gt_iff_lt, Int.not_lt, Int.not_le, ne_eq, Decidable.not_not, bne_eq_false_iff_eq] at hg14_51
            refine g1 4 true 51 52 6 rfl rfl rfl rfl rfl ?_
            refine s1 52 44 6 rfl rfl rfl rfl rfl rfl trivial ?_
            refine g1 4 true 51 53 7 rfl rfl rfl rfl rfl ?_
            refine s1 53 52 7 rfl rfl rfl rfl rfl rfl trivial ?_
            refine g1 4 true 51 54 8 rfl rfl rfl rfl rfl ?_
            refine s1 54 60 8 rfl rfl rfl rfl rfl rfl trivial ?_
            refine g1 4 true 51 55 9 rfl rfl rfl rfl rfl ?_
            refine s1 55 68 9 rfl rfl rfl rfl rfl rfl (by first | trivial | omega | (simp only [List.length_map, List.length_append, List.length_cons, List.length_nil] at *; omega)) ?_
            refine g1 4 true 51 56 10 rfl rfl rfl rfl rfl ?_
            refine s1 56 76 10 rfl rfl rfl rfl rfl rfl trivial ?_
            refine g1 4 true 51 57 11 rfl rfl rfl rfl rfl ?_
            refine s1 57 84 11 rfl rfl rfl rfl rfl rfl (by first | trivial | omega | (simp only [List.length_map, List.length_append, List.length_cons, List.length_nil] at *; omega)) ?_
            refine val 57 (SV.i (l.getD j default).t) rfl (by first | rfl | (simp only [Nat.zero_add, Int.toNat_natCast])) ?_
            refine g1 4 true 51 58 12 rfl rfl rfl rfl rfl ?_
            refine c1 (begin_any (l.getD j default).t w (hv j (by omega)).1 hw.1 hw.2) [0] [0] 58 92 12 rfl rfl rfl rfl rfl rfl rfl rfl Tryd.func49 rfl rfl rfl rfl ⟨rfl, trivial⟩ rfl rfl ?_
            refine g1 4 true 51 59 13 rfl rfl rfl rfl rfl ?_
            refine s1 59 100 13 rfl rfl rfl rfl rfl rfl trivial ?_
            refine g1 4 true 51 60 14 rfl rfl rfl rfl rfl ?_
            refine s1 60 108 14 rfl rfl rfl rfl rfl rfl (by first | trivial | omega | (simp only [List.length_map, List.length_append, List.length_cons, List.length_nil] at *; omega)) ?_
            refine s1 61 116 15 rfl rfl rfl rfl rfl rfl trivial ?_
            refine e1 124 rfl ?_
            refine keep [0, 8, 9, 10, 11, 12, 13, 61] rfl ?_
            refine q1 rfl (fun hc14 => ?_) (fun hc14 => ?_)
            · skip
              try simp only [decide_eq_true_eq, decide_eq_false_iff_not, Bool.not_eq_true', Bool.not_eq_false', beq_iff_eq, bne_iff_ne, beq_eq_false_iff_ne, Bool.and_eq_true, Bool.or_eq_true, Bool.and_eq_false_iff, Bool.or_eq_false_iff, ge_iff_le, gt_iff_lt, Int.not_lt, Int.not_le, ne_eq, Decidable.not_not, bne_eq_false_iff_eq] at hc14
              refine W_skip ?_
              refine tn ?_
              refine W_block ?_
              refine r1 ?_
              refine s1 62 124 1 rfl rfl rfl rfl rfl rfl trivial ?_
              refine s1 63 132 2 rfl rfl rfl rfl rfl rfl trivial ?_
              refine s1 64 140 3 rfl rfl rfl rfl rfl rfl trivial ?_
              refine s1 65 148 4 rfl rfl rfl rfl rfl rfl (by first | trivial | omega | (simp only [List.length_map, List.length_append, List.length_cons, List.length_nil] at *; omega)) ?_
              refine s1 66 156 5 rfl rfl rfl rfl rfl rfl trivial ?_
              refine s1 67 164 6 rfl rfl rfl rfl rfl rfl (by first | trivial | omega | (simp only [List.length_map, List.length_append, List.length_cons, List.length_nil] at *; omega)) ?_
              refine val 67 (SV.i (l.getD j default).v) rfl (by first | rfl | (simp only [Nat.zero_add, Int.toNat_natCast])) ?_
              refine s1 68 172 7 rfl rfl rfl rfl rfl rfl trivial ?_
              refine s1 69 180 8 rfl rfl rfl rfl rfl rfl ⟨Nat.le_refl _, trivial, (by show (vs.length + 1) * 8 ≤ 140737488355328; omega), (by simp only [maxLen]; omega)⟩ ?_
              refine s1 13 188 9 rfl rfl rfl rfl rfl rfl trivial ?_
              refine e1 196 rfl ?_
              refine keep [0, 8, 9, 10, 11, 12, 13] rfl ?_
              refine rowsc 180 (vs ++ [(l.getD j default).v]).length (intF (vs ++ [(l.getD j default).v])) rfl (by simp) (fun q c hq hc => cat_one rfl q c hq hc) ?_
              refine cval 13 (.sl 180 0 (vs ++ [(l.getD j default).v]).length) rfl (by simp) ?_
              refine r0 ?_
              refine s1 70 196 1 rfl rfl rfl rfl rfl rfl trivial ?_
              refine sA 71 204 2 rfl rfl rfl rfl rfl rfl rfl rfl rfl (by unfold inRange; omega) ?_
              refine s1 11 212 3 rfl rfl rfl rfl rfl rfl trivial ?_
              refine e1 220 rfl ?_
              refine bn ?_
              refine tn ?_
              exact again (((j + 1, vs ++ [(l.getD j default).v]) : Nat × List Int)) [0, 1, 2, 180] (show i ≤ (j + 1) ∧ (j + 1) ≤ l.length ∧ inBk l w i (j + 1) bs rs (vs ++ [(l.getD j default).v]) ∧ (vs ++ [(l.getD j default).v]).length = (j + 1) - i ∧ ∀ x ∈ (vs ++ [(l.getD j default).v]), inV x from ⟨by omega, by omega, inBk_step hib (by omega), by rw [List.length_append]; show vs.length + 1 = _; omega, fun x hx => by rcases List.mem_append.1 hx with h | h; exact hvi x h; (rw [List.mem_singleton.1 h]; exact (hv j (by omega)).2)⟩) (show l.length - (j + 1) < l.length - j from (by omega)) rfl ⟨rfl, rfl, rfl, rfl, rfl, rfl, rfl, trivial⟩ ⟨rfl, rfl, rfl, rfl, trivial⟩
            · skip
              try simp only [decide_eq_true_eq, decide_eq_false_iff_not, Bool.not_eq_true', Bool.not_eq_false', beq_iff_eq, bne_iff_ne, beq_eq_false_iff_ne, Bool.and_eq_true, Bool.or_eq_true, Bool.and_eq_false_iff, Bool.or_eq_false_iff, ge_iff_le, gt_iff_lt, Int.not_lt, Int.not_le, ne_eq, Decidable.not_not, bne_eq_false_iff_eq] at hc14
              refine W_exit ?_
              refine tx ?_
              refine tx ?_
              refine bx ?_
              refine tn ?_
              have hji : i < j := (by rcases hib with h | h; (exfalso; obtain ⟨rfl, _⟩ := h; omega); exact h.1)
              have hvs : ∀ q, q < vs.length → inV (vs.getD q 0) := (fun q hq => by rw [show vs.getD q 0 = vs[q] from by simp [List.getD, hq]]; exact hvi _ (List.getElem_mem hq))
              refine freeze 13 3 vs.length rfl rfl (Nat.le_refl _) ?_
              refine r0n ?_
              refine s1 72 124 1 rfl rfl rfl rfl rfl rfl trivial ?_
              refine s1 73 132 2 rfl rfl rfl rfl rfl rfl trivial ?_
              refine c1 (refOf_any vs (by omega) (fun n hn => by have := fold_s hvs n hn; exact ⟨by omega, by omega⟩)) [] [] 74 140 3 rfl rfl rfl rfl rfl rfl rfl rfl Tryd.func46 rfl rfl rfl rfl trivial rfl rfl ?_
              refine s1 75 148 4 rfl rfl rfl rfl rfl rfl trivial ?_
              refine s1 76 156 5 rfl rfl rfl rfl rfl rfl ⟨Nat.le_refl _, trivial, (by show (rs.length + 1) * 32 ≤ 140737488355328; omega), (by simp only [maxLen]; omega)⟩ ?_
              refine s1 10 164 6 rfl rfl rfl rfl rfl rfl trivial ?_
              refine e1 172 rfl ?_
              refine rowscn 156 (rs ++ [foldTo vs vs.length]).length (rollF (rs ++ [foldTo vs vs.length])) rfl (by simp) (fun q c hq hc => cat_roll (r := foldTo vs vs.length) q c hq hc) ?_
              refine cvaln 10 (.sl 156 0 (rs ++ [foldTo vs vs.length]).length) rfl (by simp) ?_
              refine wn ?_
              refine bn ?_
              refine tn ?_
              exact again (((j, (bs ++ [(⟨flr (l.getD i default).t w, (l.getD i default).v⟩ : Smp)]), rs ++ [foldTo vs vs.length]) : Nat × List Smp × List Roll)) [0, 1, 156] (show (j) ≤ l.length ∧ bk l w (j) = (((bs ++ [(⟨flr (l.getD i default).t w, (l.getD i default).v⟩ : Smp)])), (rs ++ [foldTo vs vs.length])) ∧ ((j) < l.length → isNew ((bs ++ [(⟨flr (l.getD i default).t w, (l.getD i default).v⟩ : Smp)])) (flr (l.getD (j) default).t w)) from ⟨by omega, (by rcases hib with h | h; exact absurd h.1 (by omega); exact h.2), fun hjl => .inr (by rw [last_snoc]; show flr (l.getD i default).t w ≠ flr (l.getD j default).t w; omega)⟩) (show l.length - (j) < l.length - i from (by omega)) rfl ⟨rfl, rfl, rfl, rfl, rfl, trivial⟩ ⟨rfl, rfl, rfl, trivial⟩
          · skip
            try simp only [decide_eq_true_eq, decide_eq_false_iff_not, Bool.not_eq_true', Bool.not_eq_false', beq_iff_eq, bne_iff_ne, beq_eq_false_iff_ne, Bool.and_eq_true, Bool.or_eq_true, Bool.and_eq_false_iff, Bool.or_eq_false_iff, ge_iff_le, gt_iff_lt, Int.not_lt, Int.not_le, ne_eq, Decidable.not_not, bne_eq_false_iff_eq] at hg14_51
            refine g0 4 true 51 52 6 rfl rfl rfl rfl rfl rfl ?_
            refine g0 4 true 51 53 7 rfl rfl rfl rfl rfl rfl ?_
            refine g0 4 true 51 54 8 rfl rfl rfl rfl rfl rfl ?_
            refine g0 4 true 51 55 9 rfl rfl rfl rfl rfl rfl ?_
            refine g0 4 true 51 56 10 rfl rfl rfl rfl rfl rfl ?_
            refine g0 4 true 51 57 11 rfl rfl rfl rfl rfl rfl ?_
            refine g0 4 true 51 58 12 rfl rfl rfl rfl rfl rfl ?_
            refine g0 4 true 51 59 13 rfl rfl rfl rfl rfl rfl ?_
            refine g0 4 true 51 60 14 rfl rfl rfl rfl rfl rfl ?_
            refine s1 61 116 15 rfl rfl rfl rfl rfl rfl trivial ?_
            refine e1 124 rfl ?_
            refine keep [0, 8, 9, 10, 11, 12, 13, 61] rfl ?_
            refine q1 rfl (fun hc14 => ?_) (fun hc14 => ?_)
            · skip
              exact absurd hc14 (by decide)
            · skip
              try simp only [decide_eq_true_eq, decide_eq_false_iff_not, Bool.not_eq_true', Bool.not_eq_false', beq_iff_eq, bne_iff_ne, beq_eq_false_iff_ne, Bool.and_eq_true, Bool.or_eq_true, Bool.and_eq_false_iff, Bool.or_eq_false_iff, ge_iff_le, gt_iff_lt, Int.not_lt, Int.not_le, ne_eq, Decidable.not_not, bne_eq_false_iff_eq] at hc14
              refine W_exit ?_
              refine tx ?_
              refine tx ?_
              refine bx ?_
              refine tn ?_
              have hji : i < j := (by rcases hib with h | h; (exfalso; obtain ⟨rfl, _⟩ := h; omega); exact h.1)
              have hvs : ∀ q, q < vs.length → inV (vs.getD q 0) := (fun q hq => by rw [show vs.getD q 0 = vs[q] from by simp [List.getD, hq]]; exact hvi _ (List.getElem_mem hq))
              refine freeze 13 3 vs.length rfl rfl (Nat.le_refl _) ?_
              refine r0n ?_
              refine s1 72 124 1 rfl rfl rfl rfl rfl rfl trivial ?_
              refine s1 73 132 2 rfl rfl rfl rfl rfl rfl trivial ?_
              refine c1 (refOf_any vs (by omega) (fun n hn => by have := fold_s hvs n hn; exact ⟨by omega, by omega⟩)) [] [] 74 140 3 rfl rfl rfl rfl rfl rfl rfl rfl Tryd.func46 rfl rfl rfl rfl trivial rfl rfl ?_
              refine s1 75 148 4 rfl rfl rfl rfl rfl rfl trivial ?_
              refine s1 76 156 5 rfl rfl rfl rfl rfl rfl ⟨Nat.le_refl _, trivial, (by show (rs.length + 1) * 32 ≤ 140737488355328; omega), (by simp only [maxLen]; omega)⟩ ?_
              refine s1 10 164 6 rfl rfl rfl rfl rfl rfl trivial ?_
              refine e1 172 rfl ?_
              refine rowscn 156 (rs ++ [foldTo vs vs.length]).length (rollF (rs ++ [foldTo vs vs.length])) rfl (by simp) (fun q c hq hc => cat_roll (r := foldTo vs vs.length) q c hq hc) ?_
              refine cvaln 10 (.sl 156 0 (rs ++ [foldTo vs vs.length]).length) rfl (by simp) ?_
              refine wn ?_
              refine bn ?_
              refine tn ?_
              exact again (((j, (bs ++ [(⟨flr (l.getD i default).t w, (l.getD i default).v⟩ : Smp)]), rs ++ [foldTo vs vs.length]) : Nat × List Smp × List Roll)) [0, 1, 156] (show (j) ≤ l.length ∧ bk l w (j) = (((bs ++ [(⟨flr (l.getD i default).t w, (l.getD i default).v⟩ : Smp)])), (rs ++ [foldTo vs vs.length])) ∧ ((j) < l.length → isNew ((bs ++ [(⟨flr (l.getD i default).t w, (l.getD i default).v⟩ : Smp)])) (flr (l.getD (j) default).t w)) from ⟨by omega, (by rcases hib with h | h; exact absurd h.1 (by omega); exact h.2), fun hjl => .inr (by rw [last_snoc]; show flr (l.getD i default).t w ≠ flr (l.getD j default).t w; omega)⟩) (show l.length - (j) < l.length - i from (by omega)) rfl ⟨rfl, rfl, rfl, rfl, rfl, trivial⟩ ⟨rfl, rfl, rfl, trivial⟩
        · skip
          try simp only [decide_eq_true_eq, decide_eq_false_iff_not, Bool.not_eq_true', Bool.not_eq_false', beq_iff_eq, bne_iff_ne, beq_eq_false_iff_ne, Bool.and_eq_true, Bool.or_eq_true, Bool.and_eq_false_iff, Bool.or_eq_false_iff, ge_iff_le, gt_iff_lt, Int.not_lt, Int.not_le, ne_eq, Decidable.not_not, bne_eq_false_iff_eq] at hc10
          refine W_exit ?_
          refine tx ?_
          refine tx ?_
          refine bx ?_
          refine tn ?_
          refine W_seq ?_
          obtain rfl : i = l.length := (by omega)
          obtain ⟨rfl, rfl⟩ : bs = (bk l w l.length).1 ∧ rs = (bk l w l.length).2 := (by rw [hb]; exact ⟨rfl, rfl⟩)
          refine r1 ?_
          refine s1 77 35 1 rfl rfl rfl rfl rfl rfl trivial ?_
          refine s1 78 43 2 rfl rfl rfl rfl rfl rfl (by first | trivial | omega | (simp only [List.length_map, List.length_append, List.length_cons, List.length_nil] at *; omega)) ?_
          refine s1 79 51 3 rfl rfl rfl rfl rfl rfl (by first | trivial | omega | (simp only [List.length_map, List.length_append, List.length_cons, List.length_nil] at *; omega)) ?_
          refine e1 59 rfl ?_
          refine keep [9, 10, 79] rfl ?_
          refine q1 rfl (fun hc18 => ?_) (fun hc18 => ?_)
          · skip
            try simp only [decide_eq_true_eq, decide_eq_false_iff_not, Bool.not_eq_true', Bool.not_eq_false', beq_iff_eq, bne_iff_ne, beq_eq_false_iff_ne, Bool.and_eq_true, Bool.or_eq_true, Bool.and_eq_false_iff, Bool.or_eq_false_iff, ge_iff_le, gt_iff_lt, Int.not_lt, Int.not_le, ne_eq, Decidable.not_not, bne_eq_false_iff_eq] at hc18
            refine r1 ?_
            refine s1 4 59 1 rfl rfl rfl rfl rfl rfl trivial ?_
            refine s1 5 67 2 rfl rfl rfl rfl rfl rfl trivial ?_
            refine s1 6 75 3 rfl rfl rfl rfl rfl rfl trivial ?_
            refine e1 83 rfl ?_
            refine keep [4, 5, 6] rfl ?_
            refine W_ret ?_
            refine tr ?_
            exact out3 4 5 6 (.d .nils) (.d .nils) (SV.i (bucE l w)) (π := []) (hout := []) Tryd.results19 rfl rfl rfl rfl rfl (by unfold bucE; rw [if_neg (by omega), if_neg (by omega), if_pos hn]; rfl) rfl rfl trivial ⟨rfl, rfl⟩
          · skip
            exfalso; simp at hc18; omega

end Go.Proofs.YtiedndnegmbkiaaDoor.Nice
