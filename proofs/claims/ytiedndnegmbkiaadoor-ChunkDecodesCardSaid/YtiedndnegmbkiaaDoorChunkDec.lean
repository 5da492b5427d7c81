/- The program decodes samples. -/
import Derived.Test.YtiedndnegmbkiaaDoorBitEye
namespace Go.Proofs.YtiedndnegmbkiaaDoor.Nice
open Go
set_option linter.unusedVariables false
set_option linter.unusedSimpArgs false
set_option maxRecDepth 100000
set_option maxHeartbeats 4000000

/-- The sample that codes tell behind those before. -/
def sampleOf (a : Lst) (x y : Int) : Smp := if a.n = 0 then ⟨x, y⟩ else ⟨a.t + a.st + x, a.v + y⟩
structure DecS where
  M : List Smp
  n : Nat
  e : Int
def decStep (l : List Int) (k : Nat) (p : DecS) : DecS :=
  if p.e ≠ 0 then p
  else if (zgt l p.n).e ≠ 0 then ⟨p.M, 0, (zgt l p.n).e⟩
  else if (zgt l (zgt l p.n).at').e ≠ 0 then ⟨p.M, 0, (zgt l (zgt l p.n).at').e⟩
  else if lfault (lstN p.M k) (sampleOf (lstN p.M k) (zgt l p.n).x (zgt l (zgt l p.n).at').x) ≠ 0 then ⟨p.M, 0, 4⟩
  else ⟨p.M ++ [sampleOf (lstN p.M k) (zgt l p.n).x (zgt l (zgt l p.n).at').x], (zgt l (zgt l p.n).at').at', 0⟩
def decS (l : List Int) : Nat → DecS
  | 0 => ⟨[], 8, 0⟩
  | k + 1 => decStep l k (decS l k)
def restOK (l : List Int) (n : Nat) : Prop := numB l n ((8 * l.length - n) % 8) = 0 ∧ 8 * l.length - n < 8
instance (l : List Int) (n : Nat) : Decidable (restOK l n) := inferInstanceAs (Decidable (_ ∧ _))
def decN (l : List Int) : Nat := (numB l 0 8).toNat
def decE (l : List Int) : Int := if l.length = 0 then 5 else if 120 < numB l 0 8 then 4 else if (decS l (decN l)).e ≠ 0 then (decS l (decN l)).e else if restOK l (decS l (decN l)).n then 0 else 4
def decM (l : List Int) : List Smp := (decS l (decN l)).M
theorem decS_stay {l : List Int} {k n : Nat} (hk : k ≤ n) (h : (decS l k).e ≠ 0) : decS l n = decS l k := by
  induction n with
  | zero => obtain rfl : k = 0 := by omega
            rfl
  | succ n ih =>
    rcases Nat.lt_or_ge n k with hlt | hge
    · obtain rfl : k = n + 1 := by omega
      rfl
    · have := ih hge
      show decStep l n (decS l n) = _
      unfold decStep
      rw [if_pos (by rw [this]; exact h), this]
theorem dec_e1 {l : List Int} {k n : Nat} {M : List Smp} (h : decS l k = ⟨M, n, 0⟩) (h1 : (zgt l n).e ≠ 0) : (decS l (k + 1)).e = (zgt l n).e := by
  show (decStep l k (decS l k)).e = _
  unfold decStep; rw [h]; simp only [ne_eq, not_true, if_false]; rw [if_pos h1]
theorem dec_e2 {l : List Int} {k n : Nat} {M : List Smp} (h : decS l k = ⟨M, n, 0⟩) (h1 : (zgt l n).e = 0) (h2 : (zgt l (zgt l n).at').e ≠ 0) : (decS l (k + 1)).e = (zgt l (zgt l n).at').e := by
  show (decStep l k (decS l k)).e = _
  unfold decStep; rw [h]; simp only [ne_eq, not_true, if_false]; rw [if_neg (by omega), if_pos h2]
theorem dec_e3 {l : List Int} {k n : Nat} {M : List Smp} (h : decS l k = ⟨M, n, 0⟩) (h1 : (zgt l n).e = 0) (h2 : (zgt l (zgt l n).at').e = 0) (h3 : lfault (lstN M k) (sampleOf (lstN M k) (zgt l n).x (zgt l (zgt l n).at').x) ≠ 0) : (decS l (k + 1)).e = 4 := by
  show (decStep l k (decS l k)).e = _
  unfold decStep; rw [h]; simp only [ne_eq, not_true, if_false]; rw [if_neg (by omega), if_neg (by omega), if_pos h3]
theorem dec_e4 {l : List Int} {k n : Nat} {M : List Smp} (h : decS l k = ⟨M, n, 0⟩) (h1 : (zgt l n).e = 0) (h2 : (zgt l (zgt l n).at').e = 0) (h3 : lfault (lstN M k) (sampleOf (lstN M k) (zgt l n).x (zgt l (zgt l n).at').x) = 0) : decS l (k + 1) = ⟨M ++ [sampleOf (lstN M k) (zgt l n).x (zgt l (zgt l n).at').x], (zgt l (zgt l n).at').at', 0⟩ := by
  show (decStep l k (decS l k)) = _
  unfold decStep; rw [h]; simp only [ne_eq, not_true, if_false]; rw [if_neg (by omega), if_neg (by omega), if_neg (by omega)]
theorem decE_loop {l : List Int} {k : Nat} (h0 : l.length ≠ 0) (h1 : numB l 0 8 ≤ 120) (hk : k ≤ decN l) (h : (decS l k).e ≠ 0) : decE l = (decS l k).e := by
  unfold decE
  rw [if_neg h0, if_neg (by omega), decS_stay hk h, if_pos h]
theorem decE_end {l : List Int} {n : Nat} {M : List Smp} (h0 : l.length ≠ 0) (h1 : numB l 0 8 ≤ 120) (h : decS l (decN l) = ⟨M, n, 0⟩) : decE l = if restOK l n then 0 else 4 := by
  unfold decE
  rw [if_neg h0, if_neg (by omega), h]; rfl
theorem lstN_pre (M : List Smp) (s : Smp) : ∀ k, k ≤ M.length → lstN (M ++ [s]) k = lstN M k
  | 0, _ => rfl
  | k + 1, h => by
    show nxt (lstN (M ++ [s]) k) ((M ++ [s]).getD k default) = nxt (lstN M k) (M.getD k default)
    rw [lstN_pre M s k (by omega)]
    have : (M ++ [s]).getD k default = M.getD k default := by simp only [List.getD]; rw [List.getElem?_append_left (by omega)]
    rw [this]
theorem faultTo_pre (M : List Smp) (s : Smp) : ∀ k, k ≤ M.length → faultTo (M ++ [s]) k = faultTo M k
  | 0, _ => rfl
  | k + 1, h => by
    show (if faultTo (M ++ [s]) k = 0 then lfault (lstN (M ++ [s]) k) ((M ++ [s]).getD k default) else faultTo (M ++ [s]) k) = (if faultTo M k = 0 then lfault (lstN M k) (M.getD k default) else faultTo M k)
    rw [lstN_pre M s k (by omega), faultTo_pre M s k (by omega)]
    have : (M ++ [s]).getD k default = M.getD k default := by simp only [List.getD]; rw [List.getElem?_append_left (by omega)]
    rw [this]
theorem getD_last (M : List Smp) (s : Smp) : (M ++ [s]).getD M.length default = s := by simp [List.getD]
theorem faultTo_snoc (M : List Smp) (s : Smp) (h : faultTo M M.length = 0) : faultTo (M ++ [s]) (M.length + 1) = lfault (lstN M M.length) s := by
  show (if faultTo (M ++ [s]) M.length = 0 then lfault (lstN (M ++ [s]) M.length) ((M ++ [s]).getD M.length default) else faultTo (M ++ [s]) M.length) = _
  rw [faultTo_pre M s _ (Nat.le_refl _), if_pos h, lstN_pre M s _ (Nat.le_refl _), getD_last]
theorem lstN_snoc (M : List Smp) (s : Smp) : lstN (M ++ [s]) (M.length + 1) = nxt (lstN M M.length) s := by
  show nxt (lstN (M ++ [s]) M.length) ((M ++ [s]).getD M.length default) = _
  rw [lstN_pre M s _ (Nat.le_refl _), getD_last]

theorem cat_smp' {A : List Smp} {s : Smp} (i c : Nat) (hi : i < A.length + 1) (hc : c < 2) : catR (smpF A) A.length (litR 2 [.val (.int .i64 s.t), .val (.int .i64 s.v)]) i c = smpF (A ++ [s]) i c := by
  unfold catR smpF
  by_cases h : i < A.length
  · rw [if_pos h]; simp [List.getD, List.getElem?_append_left h]
  · obtain rfl : i = A.length := by omega
    rw [if_neg (Nat.lt_irrefl _)]
    have : (A ++ [s]).getD A.length default = s := by simp [List.getD]
    rw [this, Nat.sub_self]
    match c, hc with
    | 0, _ => rfl
    | 1, _ => rfl

theorem sample_any (a : Lst) (x y : Int) (ha : LstIn a) (hx : isSm x) (hy : isSm y) : Spec Tryd.prog GC 41 [.ptr 0 0 0, SV.i x, SV.i y] [.cells 51 4 (lstX a)] (fun r ho => r = smpS (sampleOf a x y) ∧ ho = [some (.cells 51 4 (lstX a))]) := by
  obtain ⟨⟨h1, h2⟩, ⟨h3, h4⟩, ⟨h5, h6⟩, h7, h8⟩ := ha
  obtain ⟨g1a, g2a⟩ := hx
  obtain ⟨g3a, g4a⟩ := hy
  refine start 35 1 Tryd.func41 rfl rfl rfl rfl ?_
  refine r1 ?_
  refine s1 6 1 1 rfl rfl rfl rfl rfl rfl trivial ?_
  refine e1 9 rfl ?_
  refine keep [0, 1, 2, 6] rfl ?_
  refine W_seq ?_
  refine r1 ?_
  refine s1 7 9 1 rfl rfl rfl rfl rfl rfl trivial ?_
  refine s1 8 17 2 rfl rfl rfl rfl rfl rfl trivial ?_
  refine s1 9 25 3 rfl rfl rfl rfl rfl rfl trivial ?_
  refine s1 10 33 4 rfl rfl rfl rfl rfl rfl (by first | trivial | omega | (simp only [List.length_map, List.length_append, List.length_cons, List.length_nil] at *; omega)) ?_
  refine s1 11 41 5 rfl rfl rfl rfl rfl rfl (by first | trivial | omega | (simp only [List.length_map, List.length_append, List.length_cons, List.length_nil] at *; omega)) ?_
  refine e1 49 rfl ?_
  refine keep [0, 1, 2, 6, 11] rfl ?_
  refine q1 rfl (fun hc1 => ?_) (fun hc1 => ?_)
  · skip
    try simp only [decide_eq_true_eq, decide_eq_false_iff_not, Bool.not_eq_true', Bool.not_eq_false', beq_iff_eq, bne_iff_ne, beq_eq_false_iff_ne, Bool.and_eq_true, Bool.or_eq_true, Bool.and_eq_false_iff, Bool.or_eq_false_iff, ge_iff_le, gt_iff_lt, Int.not_lt, Int.not_le, ne_eq, Decidable.not_not, bne_eq_false_iff_eq] at hc1
    refine r1 ?_
    refine s1 12 49 1 rfl rfl rfl rfl rfl rfl trivial ?_
    refine s1 13 57 2 rfl rfl rfl rfl rfl rfl trivial ?_
    refine s1 14 65 3 rfl rfl rfl rfl rfl rfl trivial ?_
    refine s0 73 4 rfl rfl rfl rfl rfl (by first | trivial | omega | (simp only [List.length_map, List.length_append, List.length_cons, List.length_nil] at *; omega)) ?_
    refine e1 81 rfl ?_
    refine keep [6] rfl ?_
    refine W_ret ?_
    refine tr ?_
    exact outN (smpS (sampleOf a x y)) (π := [0]) (hout := [some (.cells 51 4 (lstX a))]) Tryd.results41 rfl (by trivial) (by unfold sampleOf; rw [if_pos (by omega)]; rfl) rfl rfl ⟨rfl, trivial⟩ ⟨rfl, rfl⟩
  · skip
    try simp only [decide_eq_true_eq, decide_eq_false_iff_not, Bool.not_eq_true', Bool.not_eq_false', beq_iff_eq, bne_iff_ne, beq_eq_false_iff_ne, Bool.and_eq_true, Bool.or_eq_true, Bool.and_eq_false_iff, Bool.or_eq_false_iff, ge_iff_le, gt_iff_lt, Int.not_lt, Int.not_le, ne_eq, Decidable.not_not, bne_eq_false_iff_eq] at hc1
    refine W_skip ?_
    refine tn ?_
    refine rd1 rfl ?_
    refine d1 15 49 1 rfl rfl rfl rfl rfl rfl trivial ?_
    refine d1 16 57 2 rfl rfl rfl rfl rfl rfl trivial ?_
    refine d1 17 65 3 rfl rfl rfl rfl rfl rfl trivial ?_
    refine d1 18 73 4 rfl rfl rfl rfl rfl rfl trivial ?_
    refine d1 19 81 5 rfl rfl rfl rfl rfl rfl (by first | trivial | omega | (simp only [List.length_map, List.length_append, List.length_cons, List.length_nil] at *; omega)) ?_
    refine d1 20 89 6 rfl rfl rfl rfl rfl rfl trivial ?_
    refine d1 21 97 7 rfl rfl rfl rfl rfl rfl trivial ?_
    refine d1 22 105 8 rfl rfl rfl rfl rfl rfl trivial ?_
    refine d1 23 113 9 rfl rfl rfl rfl rfl rfl (by first | trivial | omega | (simp only [List.length_map, List.length_append, List.length_cons, List.length_nil] at *; omega)) ?_
    refine dA 24 121 10 rfl rfl rfl rfl rfl rfl rfl rfl rfl (by unfold inRange; omega) ?_
    refine d1 25 129 11 rfl rfl rfl rfl rfl rfl trivial ?_
    refine dA 26 137 12 rfl rfl rfl rfl rfl rfl rfl rfl rfl (by unfold inRange; omega) ?_
    refine d1 27 145 13 rfl rfl rfl rfl rfl rfl trivial ?_
    refine d1 28 153 14 rfl rfl rfl rfl rfl rfl trivial ?_
    refine d1 29 161 15 rfl rfl rfl rfl rfl rfl trivial ?_
    refine d1 30 169 16 rfl rfl rfl rfl rfl rfl trivial ?_
    refine d1 31 177 17 rfl rfl rfl rfl rfl rfl (by first | trivial | omega | (simp only [List.length_map, List.length_append, List.length_cons, List.length_nil] at *; omega)) ?_
    refine d1 32 185 18 rfl rfl rfl rfl rfl rfl trivial ?_
    refine dA 33 193 19 rfl rfl rfl rfl rfl rfl rfl rfl rfl (by unfold inRange; omega) ?_
    refine d1 34 201 20 rfl rfl rfl rfl rfl rfl trivial ?_
    refine d0 209 21 rfl rfl rfl rfl rfl (by first | trivial | omega | (simp only [List.length_map, List.length_append, List.length_cons, List.length_nil] at *; omega)) ?_
    refine de1 217 rfl (by kernel_rfl) ?_
    refine keep [6] rfl ?_
    refine W_ret ?_
    exact outN (smpS (sampleOf a x y)) (π := [0]) (hout := [some (.cells 51 4 (lstX a))]) Tryd.results41 rfl (by trivial) (by unfold sampleOf; rw [if_neg (by omega)]; rfl) rfl rfl ⟨rfl, trivial⟩ ⟨rfl, rfl⟩

theorem decode_any (l : List Int) (hl : Bytes l) : Spec Tryd.prog GC 13 [u8V l] [] (fun r ho => (decE l = 0 ∧ r = SV.tup [.sl 0 0 (decM l).length, SV.i 0] ∧ ho = [some (.rows 49 2 (decM l).length (smpF (decM l)))]) ∨ (decE l ≠ 0 ∧ r = SV.tup [.d .nils, SV.i (decE l)] ∧ ho = [])) := by
  have hlb := hl
  obtain ⟨hl1, hl2⟩ := hl
  refine start 76 0 Tryd.func13 rfl rfl rfl rfl ?_
  refine r1 ?_
  refine s1 2 0 1 rfl rfl rfl rfl rfl rfl trivial ?_
  refine s1 3 8 2 rfl rfl rfl rfl rfl rfl trivial ?_
  refine e1 16 rfl ?_
  refine keep [0] rfl ?_
  refine r1 ?_
  refine s1 15 16 1 rfl rfl rfl rfl rfl rfl trivial ?_
  refine c1 (open_any l) [] [24] 16 24 2 rfl rfl rfl rfl rfl rfl rfl rfl Tryd.func38 rfl rfl rfl rfl trivial rfl rfl ?_
  refine s1 4 32 3 rfl rfl rfl rfl rfl rfl trivial ?_
  refine e1 40 rfl ?_
  refine keep [4] rfl ?_
  refine r1 ?_
  refine s1 18 40 1 rfl rfl rfl rfl rfl rfl trivial ?_
  refine c1 (get_any l hlb 0 (by omega) 8 (by decide)) [24] [24] 19 48 2 rfl rfl rfl rfl rfl rfl rfl rfl Tryd.func39 rfl rfl rfl rfl ⟨rfl, trivial⟩ rfl rfl ?_
  refine s1 17 56 3 rfl rfl rfl rfl rfl rfl trivial ?_
  refine s1 20 64 4 rfl rfl rfl rfl rfl rfl trivial ?_
  refine s1 21 72 5 rfl rfl rfl rfl rfl rfl trivial ?_
  refine s1 5 80 6 rfl rfl rfl rfl rfl rfl trivial ?_
  refine s1 6 88 7 rfl rfl rfl rfl rfl rfl trivial ?_
  refine e1 96 rfl ?_
  refine keep [4, 5, 6] rfl ?_
  refine W_seq ?_
  refine W_block ?_
  refine r1 ?_
  refine s1 23 96 1 rfl rfl rfl rfl rfl rfl trivial ?_
  refine s1 24 104 2 rfl rfl rfl rfl rfl rfl trivial ?_
  refine s1 22 112 3 rfl rfl rfl rfl rfl rfl trivial ?_
  refine e1 120 rfl ?_
  refine keep [4, 5, 22] rfl ?_
  refine q1 rfl (fun hc3 => ?_) (fun hc3 => ?_)
  · skip
    try simp only [decide_eq_true_eq, decide_eq_false_iff_not, Bool.not_eq_true', Bool.not_eq_false', beq_iff_eq, bne_iff_ne, beq_eq_false_iff_ne, Bool.and_eq_true, Bool.or_eq_true, Bool.and_eq_false_iff, Bool.or_eq_false_iff, ge_iff_le, gt_iff_lt, Int.not_lt, Int.not_le, ne_eq, Decidable.not_not, bne_eq_false_iff_eq] at hc3
    refine r1 ?_
    refine s1 2 120 1 rfl rfl rfl rfl rfl rfl trivial ?_
    refine s1 3 128 2 rfl rfl rfl rfl rfl rfl trivial ?_
    refine e1 136 rfl ?_
    refine keep [2, 3] rfl ?_
    refine W_ret ?_
    refine br ?_
    refine tr ?_
    have hE : decE l = 5 := (by unfold decE; rw [if_pos (by simp [gok] at hc3; omega)])
    exact out2 2 3 (.d .nils) (SV.i (decE l)) (π := []) (hout := []) Tryd.results13 rfl rfl rfl (by rw [hE]; rfl) rfl rfl trivial (.inr ⟨by rw [hE]; first | decide | assumption, rfl, rfl⟩)
  · skip
    try simp only [decide_eq_true_eq, decide_eq_false_iff_not, Bool.not_eq_true', Bool.not_eq_false', beq_iff_eq, bne_iff_ne, beq_eq_false_iff_ne, Bool.and_eq_true, Bool.or_eq_true, Bool.and_eq_false_iff, Bool.or_eq_false_iff, ge_iff_le, gt_iff_lt, Int.not_lt, Int.not_le, ne_eq, Decidable.not_not, bne_eq_false_iff_eq] at hc3
    have h0 : l.length ≠ 0 := (by simp [gok] at hc3; omega)
    have hok8 : 0 + 8 ≤ 8 * l.length := (by omega)
    have hgv : gval l 0 8 = numB l 0 8 := if_pos hok8
    have hgp : gpos l 0 8 = 8 := if_pos hok8
    refine r1 ?_
    refine s1 26 120 1 rfl rfl rfl rfl rfl rfl trivial ?_
    refine s1 27 128 2 rfl rfl rfl rfl rfl rfl (by first | trivial | omega | (simp only [List.length_map, List.length_append, List.length_cons, List.length_nil] at *; omega)) ?_
    refine s1 25 136 3 rfl rfl rfl rfl rfl rfl trivial ?_
    refine e1 144 rfl ?_
    refine keep [4, 5, 25] rfl ?_
    refine q1 rfl (fun hc5 => ?_) (fun hc5 => ?_)
    · skip
      try simp only [decide_eq_true_eq, decide_eq_false_iff_not, Bool.not_eq_true', Bool.not_eq_false', beq_iff_eq, bne_iff_ne, beq_eq_false_iff_ne, Bool.and_eq_true, Bool.or_eq_true, Bool.and_eq_false_iff, Bool.or_eq_false_iff, ge_iff_le, gt_iff_lt, Int.not_lt, Int.not_le, ne_eq, Decidable.not_not, bne_eq_false_iff_eq] at hc5
      refine r1 ?_
      refine s1 2 144 1 rfl rfl rfl rfl rfl rfl trivial ?_
      refine s1 3 152 2 rfl rfl rfl rfl rfl rfl trivial ?_
      refine e1 160 rfl ?_
      refine keep [2, 3] rfl ?_
      refine W_ret ?_
      refine br ?_
      refine tr ?_
      have hE : decE l = 4 := (by unfold decE; rw [if_neg h0, if_pos (by rw [← hgv]; simpa using hc5)])
      exact out2 2 3 (.d .nils) (SV.i (decE l)) (π := []) (hout := []) Tryd.results13 rfl rfl rfl (by rw [hE]; rfl) rfl rfl trivial (.inr ⟨by rw [hE]; first | decide | assumption, rfl, rfl⟩)
    · skip
      try simp only [decide_eq_true_eq, decide_eq_false_iff_not, Bool.not_eq_true', Bool.not_eq_false', beq_iff_eq, bne_iff_ne, beq_eq_false_iff_ne, Bool.and_eq_true, Bool.or_eq_true, Bool.and_eq_false_iff, Bool.or_eq_false_iff, ge_iff_le, gt_iff_lt, Int.not_lt, Int.not_le, ne_eq, Decidable.not_not, bne_eq_false_iff_eq] at hc5
      have hN : numB l 0 8 ≤ 120 := (by rw [← hgv]; omega)
      have hN0 := (numB_bd l 0 8).1
      refine W_skip ?_
      refine bn ?_
      refine tn ?_
      refine r1 ?_
      refine s1 7 144 1 rfl rfl rfl rfl rfl rfl trivial ?_
      refine e1 152 rfl ?_
      refine keep [4, 5, 7] rfl ?_
      refine r1 ?_
      refine s1 8 152 1 rfl rfl rfl rfl rfl rfl trivial ?_
      refine e1 160 rfl ?_
      refine keep [4, 5, 7, 8] rfl ?_
      refine W_seq ?_
      refine cval 5 (SV.i (numB l 0 8)) rfl (by rw [hgv]) ?_
      refine chval 24 (.cells 92 2 [u8V l, SV.i (8 : Nat)]) rfl (by rw [hgp]; rfl) ?_
      refine r1 ?_
      refine s1 28 160 1 rfl rfl rfl rfl rfl rfl trivial ?_
      refine s1 29 168 2 rfl rfl rfl rfl rfl rfl trivial ?_
      refine e1 176 rfl ?_
      refine keep [4, 7, 8, 28, 29] rfl ?_
      refine W_block ?_
      refine ghostly 7 49 2 (smpF []) rfl ?_
      refine loop (α := Nat × Nat × List Smp) 3 (fun z => [(4, .ptr 0 0 0), (7, .sl 2 0 (z.2.2).length), (8, .ptr 1 0 0), (28, SV.i (numB l 0 8)), (29, SV.i (z.1))]) (fun z => [some (.cells 92 2 [u8V l, SV.i ((z.2.1) : Nat)]), some (.cells 51 4 (lstX (lstN (z.2.2) (z.1)))), some (.rows 49 2 (z.2.2).length (smpF (z.2.2)))]) (fun z => ((z.1) : Int) ≤ numB l 0 8 ∧ decS l (z.1) = ⟨(z.2.2), (z.2.1), 0⟩ ∧ (z.2.2).length = (z.1) ∧ faultTo (z.2.2) (z.1) = 0 ∧ (z.2.1) ≤ 8 * l.length) (fun z => (numB l 0 8).toNat - (z.1)) (((0, 8, []) : Nat × Nat × List Smp)) [24, 152, 176] (fun _ => rfl) (show ((0) : Int) ≤ numB l 0 8 ∧ decS l (0) = ⟨([]), (8), 0⟩ ∧ ([]).length = (0) ∧ faultTo ([]) (0) = 0 ∧ (8) ≤ 8 * l.length from ⟨hN0, rfl, rfl, rfl, by omega⟩) rfl ⟨rfl, rfl, rfl, rfl, rfl, trivial⟩ ⟨rfl, rfl, rfl, trivial⟩ (fun z hx => ?_)
      obtain ⟨k, n, M⟩ := z
      show W _ _ _ ⟨tOf [(4, .ptr 0 0 0), (7, .sl 2 0 M.length), (8, .ptr 1 0 0), (28, SV.i (numB l 0 8)), (29, SV.i k)], hOf [some (.cells 92 2 [u8V l, SV.i (n : Nat)]), some (.cells 51 4 (lstX (lstN M k))), some (.rows 49 2 M.length (smpF M))], 3⟩
      have hx : (k : Int) ≤ numB l 0 8 ∧ decS l k = ⟨M, n, 0⟩ ∧ M.length = k ∧ faultTo M k = 0 ∧ n ≤ 8 * l.length := hx
      obtain ⟨hk, hd, hMl, hf, hn⟩ := hx
      have ha := lst_in hf (by omega)
      refine r1 ?_
      refine s1 30 3 1 rfl rfl rfl rfl rfl rfl (by first | trivial | omega | (simp only [List.length_map, List.length_append, List.length_cons, List.length_nil] at *; omega)) ?_
      refine e1 11 rfl ?_
      refine keep [4, 7, 8, 28, 29, 30] rfl ?_
      refine W_seq ?_
      refine q1 rfl (fun hc10 => ?_) (fun hc10 => ?_)
      · skip
        try simp only [decide_eq_true_eq, decide_eq_false_iff_not, Bool.not_eq_true', Bool.not_eq_false', beq_iff_eq, bne_iff_ne, beq_eq_false_iff_ne, Bool.and_eq_true, Bool.or_eq_true, Bool.and_eq_false_iff, Bool.or_eq_false_iff, ge_iff_le, gt_iff_lt, Int.not_lt, Int.not_le, ne_eq, Decidable.not_not, bne_eq_false_iff_eq] at hc10
        refine W_skip ?_
        refine tn ?_
        refine W_seq ?_
        refine W_block ?_
        refine r1 ?_
        refine s1 32 11 1 rfl rfl rfl rfl rfl rfl trivial ?_
        refine c1 (zget_any l hlb n hn) [0] [0] 33 19 2 rfl rfl rfl rfl rfl rfl rfl rfl Tryd.func40 rfl rfl rfl rfl ⟨rfl, trivial⟩ rfl rfl ?_
        refine s1 31 27 3 rfl rfl rfl rfl rfl rfl trivial ?_
        refine s1 34 35 4 rfl rfl rfl rfl rfl rfl trivial ?_
        refine s1 35 43 5 rfl rfl rfl rfl rfl rfl trivial ?_
        refine s1 9 51 6 rfl rfl rfl rfl rfl rfl trivial ?_
        refine s1 10 59 7 rfl rfl rfl rfl rfl rfl trivial ?_
        refine e1 67 rfl ?_
        refine keep [4, 7, 8, 9, 10, 28, 29] rfl ?_
        refine W_seq ?_
        refine r1 ?_
        refine s1 36 67 1 rfl rfl rfl rfl rfl rfl trivial ?_
        refine s1 37 75 2 rfl rfl rfl rfl rfl rfl (by first | trivial | omega | (simp only [List.length_map, List.length_append, List.length_cons, List.length_nil] at *; omega)) ?_
        refine e1 83 rfl ?_
        refine keep [4, 7, 8, 9, 10, 28, 29, 37] rfl ?_
        refine q1 rfl (fun hc12 => ?_) (fun hc12 => ?_)
        · skip
          try simp only [decide_eq_true_eq, decide_eq_false_iff_not, Bool.not_eq_true', Bool.not_eq_false', beq_iff_eq, bne_iff_ne, beq_eq_false_iff_ne, Bool.and_eq_true, Bool.or_eq_true, Bool.and_eq_false_iff, Bool.or_eq_false_iff, ge_iff_le, gt_iff_lt, Int.not_lt, Int.not_le, ne_eq, Decidable.not_not, bne_eq_false_iff_eq] at hc12
          refine r1 ?_
          refine s1 38 83 1 rfl rfl rfl rfl rfl rfl trivial ?_
          refine s1 2 91 2 rfl rfl rfl rfl rfl rfl trivial ?_
          refine s1 3 99 3 rfl rfl rfl rfl rfl rfl trivial ?_
          refine e1 107 rfl ?_
          refine keep [2, 3] rfl ?_
          refine W_ret ?_
          refine tr ?_
          refine br ?_
          refine tr ?_
          refine tr ?_
          refine br ?_
          refine tr ?_
          have he := dec_e1 hd hc12
          have hE : decE l = (zgt l n).e := (by rw [decE_loop h0 hN (show k + 1 ≤ decN l by unfold decN; omega) (by rw [he]; exact hc12), he])
          exact out2 2 3 (.d .nils) (SV.i (decE l)) (π := []) (hout := []) Tryd.results13 rfl rfl rfl (by rw [hE]; rfl) rfl rfl trivial (.inr ⟨by rw [hE]; first | decide | assumption, rfl, rfl⟩)
        · skip
          try simp only [decide_eq_true_eq, decide_eq_false_iff_not, Bool.not_eq_true', Bool.not_eq_false', beq_iff_eq, bne_iff_ne, beq_eq_false_iff_ne, Bool.and_eq_true, Bool.or_eq_true, Bool.and_eq_false_iff, Bool.or_eq_false_iff, ge_iff_le, gt_iff_lt, Int.not_lt, Int.not_le, ne_eq, Decidable.not_not, bne_eq_false_iff_eq] at hc12
          refine W_skip ?_
          refine tn ?_
          refine r1 ?_
          refine s1 40 83 1 rfl rfl rfl rfl rfl rfl trivial ?_
          refine c1 (zget_any l hlb ((zgt l n).at') (zgt_le l n hn)) [0] [0] 41 91 2 rfl rfl rfl rfl rfl rfl rfl rfl Tryd.func40 rfl rfl rfl rfl ⟨rfl, trivial⟩ rfl rfl ?_
          refine s1 39 99 3 rfl rfl rfl rfl rfl rfl trivial ?_
          refine s1 42 107 4 rfl rfl rfl rfl rfl rfl trivial ?_
          refine s1 43 115 5 rfl rfl rfl rfl rfl rfl trivial ?_
          refine s1 11 123 6 rfl rfl rfl rfl rfl rfl trivial ?_
          refine s1 10 131 7 rfl rfl rfl rfl rfl rfl trivial ?_
          refine e1 139 rfl ?_
          refine keep [4, 7, 8, 9, 10, 11, 28, 29] rfl ?_
          refine W_seq ?_
          refine r1 ?_
          refine s1 44 139 1 rfl rfl rfl rfl rfl rfl trivial ?_
          refine s1 45 147 2 rfl rfl rfl rfl rfl rfl (by first | trivial | omega | (simp only [List.length_map, List.length_append, List.length_cons, List.length_nil] at *; omega)) ?_
          refine e1 155 rfl ?_
          refine keep [4, 7, 8, 9, 10, 11, 28, 29, 45] rfl ?_
          refine q1 rfl (fun hc15 => ?_) (fun hc15 => ?_)
          · skip
            try simp only [decide_eq_true_eq, decide_eq_false_iff_not, Bool.not_eq_true', Bool.not_eq_false', beq_iff_eq, bne_iff_ne, beq_eq_false_iff_ne, Bool.and_eq_true, Bool.or_eq_true, Bool.and_eq_false_iff, Bool.or_eq_false_iff, ge_iff_le, gt_iff_lt, Int.not_lt, Int.not_le, ne_eq, Decidable.not_not, bne_eq_false_iff_eq] at hc15
            refine r1 ?_
            refine s1 46 155 1 rfl rfl rfl rfl rfl rfl trivial ?_
            refine s1 2 163 2 rfl rfl rfl rfl rfl rfl trivial ?_
            refine s1 3 171 3 rfl rfl rfl rfl rfl rfl trivial ?_
            refine e1 179 rfl ?_
            refine keep [2, 3] rfl ?_
            refine W_ret ?_
            refine tr ?_
            refine br ?_
            refine tr ?_
            refine tr ?_
            refine br ?_
            refine tr ?_
            have he := dec_e2 hd hc12 hc15
            have hE : decE l = (zgt l ((zgt l n).at')).e := (by rw [decE_loop h0 hN (show k + 1 ≤ decN l by unfold decN; omega) (by rw [he]; exact hc15), he])
            exact out2 2 3 (.d .nils) (SV.i (decE l)) (π := []) (hout := []) Tryd.results13 rfl rfl rfl (by rw [hE]; rfl) rfl rfl trivial (.inr ⟨by rw [hE]; first | decide | assumption, rfl, rfl⟩)
          · skip
            try simp only [decide_eq_true_eq, decide_eq_false_iff_not, Bool.not_eq_true', Bool.not_eq_false', beq_iff_eq, bne_iff_ne, beq_eq_false_iff_ne, Bool.and_eq_true, Bool.or_eq_true, Bool.and_eq_false_iff, Bool.or_eq_false_iff, ge_iff_le, gt_iff_lt, Int.not_lt, Int.not_le, ne_eq, Decidable.not_not, bne_eq_false_iff_eq] at hc15
            refine W_skip ?_
            refine tn ?_
            refine r1 ?_
            refine s1 47 155 1 rfl rfl rfl rfl rfl rfl trivial ?_
            refine s1 48 163 2 rfl rfl rfl rfl rfl rfl trivial ?_
            refine c1 (sample_any (lstN M k) (zgt l n).x (zgt l ((zgt l n).at')).x ha (zgt_sm l n) (zgt_sm l _)) [1] [1] 49 171 3 rfl rfl rfl rfl rfl rfl rfl rfl Tryd.func41 rfl rfl rfl rfl ⟨rfl, trivial⟩ rfl rfl ?_
            refine s1 12 179 4 rfl rfl rfl rfl rfl rfl trivial ?_
            refine s0 187 5 rfl rfl rfl rfl rfl (by first | trivial | omega | (simp only [List.length_map, List.length_append, List.length_cons, List.length_nil] at *; omega)) ?_
            refine e1 195 rfl ?_
            refine keep [4, 7, 8, 12, 28, 29] rfl ?_
            refine W_seq ?_
            refine r1 ?_
            refine s1 50 195 1 rfl rfl rfl rfl rfl rfl (by first | trivial | omega | (simp only [List.length_map, List.length_append, List.length_cons, List.length_nil] at *; omega)) ?_
            refine c1 (fault_any (lstN M k) (sampleOf (lstN M k) (zgt l n).x (zgt l ((zgt l n).at')).x)) [1] [1] 51 203 2 rfl rfl rfl rfl rfl rfl rfl rfl Tryd.func27 rfl rfl rfl rfl ⟨rfl, trivial⟩ rfl rfl ?_
            refine s1 52 211 3 rfl rfl rfl rfl rfl rfl (by first | trivial | omega | (simp only [List.length_map, List.length_append, List.length_cons, List.length_nil] at *; omega)) ?_
            refine e1 219 rfl ?_
            refine keep [4, 7, 8, 12, 28, 29, 52] rfl ?_
            refine q1 rfl (fun hc18 => ?_) (fun hc18 => ?_)
            · skip
              try simp only [decide_eq_true_eq, decide_eq_false_iff_not, Bool.not_eq_true', Bool.not_eq_false', beq_iff_eq, bne_iff_ne, beq_eq_false_iff_ne, Bool.and_eq_true, Bool.or_eq_true, Bool.and_eq_false_iff, Bool.or_eq_false_iff, ge_iff_le, gt_iff_lt, Int.not_lt, Int.not_le, ne_eq, Decidable.not_not, bne_eq_false_iff_eq] at hc18
              refine r1 ?_
              refine s1 2 219 1 rfl rfl rfl rfl rfl rfl trivial ?_
              refine s1 3 227 2 rfl rfl rfl rfl rfl rfl trivial ?_
              refine e1 235 rfl ?_
              refine keep [2, 3] rfl ?_
              refine W_ret ?_
              refine tr ?_
              refine br ?_
              refine tr ?_
              refine tr ?_
              refine br ?_
              refine tr ?_
              have he := dec_e3 hd hc12 hc15 hc18
              have hE : decE l = 4 := (by rw [decE_loop h0 hN (show k + 1 ≤ decN l by unfold decN; omega) (by rw [he]; decide), he])
              exact out2 2 3 (.d .nils) (SV.i (decE l)) (π := []) (hout := []) Tryd.results13 rfl rfl rfl (by rw [hE]; rfl) rfl rfl trivial (.inr ⟨by rw [hE]; first | decide | assumption, rfl, rfl⟩)
            · skip
              try simp only [decide_eq_true_eq, decide_eq_false_iff_not, Bool.not_eq_true', Bool.not_eq_false', beq_iff_eq, bne_iff_ne, beq_eq_false_iff_ne, Bool.and_eq_true, Bool.or_eq_true, Bool.and_eq_false_iff, Bool.or_eq_false_iff, ge_iff_le, gt_iff_lt, Int.not_lt, Int.not_le, ne_eq, Decidable.not_not, bne_eq_false_iff_eq] at hc18
              have hf2 := lfault_zero hc18
              have hds := dec_e4 hd hc12 hc15 hc18
              refine W_skip ?_
              refine tn ?_
              refine r1 ?_
              refine s1 53 219 1 rfl rfl rfl rfl rfl rfl (by first | trivial | omega | (simp only [List.length_map, List.length_append, List.length_cons, List.length_nil] at *; omega)) ?_
              refine c1 (next_any (lstN M k) (sampleOf (lstN M k) (zgt l n).x (zgt l ((zgt l n).at')).x) ha hf2.1 hf2.2.1) [1] [1] 54 227 2 rfl rfl rfl rfl rfl rfl rfl rfl Tryd.func30 rfl rfl rfl rfl ⟨rfl, trivial⟩ rfl rfl ?_
              refine e1 235 rfl ?_
              refine keep [4, 7, 8, 12, 28, 29] rfl ?_
              refine r0 ?_
              refine s1 55 235 1 rfl rfl rfl rfl rfl rfl trivial ?_
              refine s1 56 243 2 rfl rfl rfl rfl rfl rfl (by first | trivial | omega | (simp only [List.length_map, List.length_append, List.length_cons, List.length_nil] at *; omega)) ?_
              refine s1 57 251 3 rfl rfl rfl rfl rfl rfl trivial ?_
              refine s1 58 259 4 rfl rfl rfl rfl rfl rfl ⟨Nat.le_refl _, trivial, (by show (M.length + 1) * 16 ≤ 140737488355328; omega), (by simp only [maxLen]; omega)⟩ ?_
              refine s1 7 267 5 rfl rfl rfl rfl rfl rfl trivial ?_
              refine e1 275 rfl ?_
              refine bn ?_
              refine tn ?_
              refine rowsc 259 (M ++ [(sampleOf (lstN M k) (zgt l n).x (zgt l ((zgt l n).at')).x)]).length (smpF (M ++ [(sampleOf (lstN M k) (zgt l n).x (zgt l ((zgt l n).at')).x)])) rfl (by simp) (fun q c hq hc => cat_smp' (s := (sampleOf (lstN M k) (zgt l n).x (zgt l ((zgt l n).at')).x)) q c hq hc) ?_
              refine cval 7 (.sl 259 0 (M ++ [(sampleOf (lstN M k) (zgt l n).x (zgt l ((zgt l n).at')).x)]).length) rfl (by simp) ?_
              have hls : lstN (M ++ [(sampleOf (lstN M k) (zgt l n).x (zgt l ((zgt l n).at')).x)]) (k + 1) = nxt (lstN M k) (sampleOf (lstN M k) (zgt l n).x (zgt l ((zgt l n).at')).x) := (by rw [← hMl]; exact lstN_snoc M _)
              refine chval 1 (.cells 51 4 (lstX (lstN (M ++ [(sampleOf (lstN M k) (zgt l n).x (zgt l ((zgt l n).at')).x)]) (k + 1)))) rfl (by rw [hls]; rfl) ?_
              refine r0 ?_
              refine sA 59 275 1 rfl rfl rfl rfl rfl rfl rfl rfl rfl (by unfold inRange; omega) ?_
              refine s1 29 283 2 rfl rfl rfl rfl rfl rfl trivial ?_
              refine e1 291 rfl ?_
              refine tn ?_
              exact again (((k + 1, (zgt l ((zgt l n).at')).at', M ++ [(sampleOf (lstN M k) (zgt l n).x (zgt l ((zgt l n).at')).x)]) : Nat × Nat × List Smp)) [0, 1, 259] (show ((k + 1) : Int) ≤ numB l 0 8 ∧ decS l (k + 1) = ⟨(M ++ [(sampleOf (lstN M k) (zgt l n).x (zgt l ((zgt l n).at')).x)]), ((zgt l ((zgt l n).at')).at'), 0⟩ ∧ (M ++ [(sampleOf (lstN M k) (zgt l n).x (zgt l ((zgt l n).at')).x)]).length = (k + 1) ∧ faultTo (M ++ [(sampleOf (lstN M k) (zgt l n).x (zgt l ((zgt l n).at')).x)]) (k + 1) = 0 ∧ ((zgt l ((zgt l n).at')).at') ≤ 8 * l.length from ⟨by omega, hds, by simp [hMl], (by rw [← hMl, faultTo_snoc M _ (by rw [hMl]; exact hf), hMl]; exact hc18), zgt_le l _ (zgt_le l n hn)⟩) (show (numB l 0 8).toNat - (k + 1) < (numB l 0 8).toNat - k from (by omega)) rfl ⟨rfl, rfl, rfl, rfl, rfl, trivial⟩ ⟨rfl, rfl, rfl, trivial⟩
      · skip
        try simp only [decide_eq_true_eq, decide_eq_false_iff_not, Bool.not_eq_true', Bool.not_eq_false', beq_iff_eq, bne_iff_ne, beq_eq_false_iff_ne, Bool.and_eq_true, Bool.or_eq_true, Bool.and_eq_false_iff, Bool.or_eq_false_iff, ge_iff_le, gt_iff_lt, Int.not_lt, Int.not_le, ne_eq, Decidable.not_not, bne_eq_false_iff_eq] at hc10
        refine W_exit ?_
        refine tx ?_
        refine tx ?_
        refine bx ?_
        refine tn ?_
        have hkN : k = decN l := (by unfold decN; omega)
        have hdN : decS l (decN l) = ⟨M, n, 0⟩ := (by rw [← hkN]; exact hd)
        have hend := decE_end h0 hN hdN
        refine r1 ?_
        refine s1 61 11 1 rfl rfl rfl rfl rfl rfl trivial ?_
        refine s1 62 19 2 rfl rfl rfl rfl rfl rfl trivial ?_
        refine c1 (left_any l hlb n hn) [0] [0] 63 27 3 rfl rfl rfl rfl rfl rfl rfl rfl Tryd.func42 rfl rfl rfl rfl ⟨rfl, trivial⟩ rfl rfl ?_
        refine sD 64 35 4 rfl rfl rfl rfl rfl rfl rfl rfl rfl (by omega) ?_
        refine val 64 (SV.i (((8 * l.length - n) % 8) : Nat)) rfl (congrArg (fun x => SV.d (D.val (Value.int .i64 x))) (by omega)) ?_
        refine c1 (get_any l hlb n hn ((8 * l.length - n) % 8) (by omega)) [0] [0] 65 43 5 rfl rfl rfl rfl rfl rfl rfl rfl Tryd.func39 rfl rfl rfl rfl ⟨rfl, trivial⟩ rfl rfl ?_
        refine s1 60 51 6 rfl rfl rfl rfl rfl rfl trivial ?_
        refine s1 66 59 7 rfl rfl rfl rfl rfl rfl trivial ?_
        refine s1 67 67 8 rfl rfl rfl rfl rfl rfl trivial ?_
        refine s1 13 75 9 rfl rfl rfl rfl rfl rfl trivial ?_
        refine s1 14 83 10 rfl rfl rfl rfl rfl rfl trivial ?_
        refine e1 91 rfl ?_
        refine keep [4, 7, 13] rfl ?_
        refine W_seq ?_
        have hok : n + ((8 * l.length - n) % 8) ≤ 8 * l.length := (by omega)
        have hgv2 : gval l n ((8 * l.length - n) % 8) = numB l n ((8 * l.length - n) % 8) := if_pos hok
        have hgp2 : gpos l n ((8 * l.length - n) % 8) = n + ((8 * l.length - n) % 8) := if_pos hok
        have hnb := (numB_bd l n ((8 * l.length - n) % 8)).1
        refine cval 13 (SV.i (numB l n ((8 * l.length - n) % 8))) rfl (by rw [hgv2]) ?_
        refine chval 0 (.cells 92 2 [u8V l, SV.i (n + ((8 * l.length - n) % 8) : Nat)]) rfl (by rw [hgp2]; rfl) ?_
        refine r1 ?_
        refine s1 68 91 1 rfl rfl rfl rfl rfl rfl trivial ?_
        refine s1 69 99 2 rfl rfl rfl rfl rfl rfl (by first | trivial | omega | (simp only [List.length_map, List.length_append, List.length_cons, List.length_nil] at *; omega)) ?_
        refine s1 70 107 3 rfl rfl rfl rfl rfl rfl trivial ?_
        refine ask 70 rfl (fun hg24_70 => ?_) (fun hg24_70 => ?_)
        · skip
          try simp only [decide_eq_true_eq, decide_eq_false_iff_not, Bool.not_eq_true', Bool.not_eq_false', beq_iff_eq, bne_iff_ne, beq_eq_false_iff_ne, Bool.and_eq_true, Bool.or_eq_true, Bool.and_eq_false_iff, Bool.or_eq_false_iff, ge_iff_le, gt_iff_lt, Int.not_lt, Int.not_le, ne_eq, Decidable.not_not, bne_eq_false_iff_eq] at hg24_70
          refine g0 2 false 70 71 4 rfl rfl rfl rfl rfl rfl ?_
          refine g0 2 false 70 72 5 rfl rfl rfl rfl rfl rfl ?_
          refine g0 2 false 70 73 6 rfl rfl rfl rfl rfl rfl ?_
          refine s1 74 139 7 rfl rfl rfl rfl rfl rfl trivial ?_
          refine e1 147 rfl ?_
          refine keep [7, 74] rfl ?_
          refine q1 rfl (fun hc24 => ?_) (fun hc24 => ?_)
          · skip
            try simp only [decide_eq_true_eq, decide_eq_false_iff_not, Bool.not_eq_true', Bool.not_eq_false', beq_iff_eq, bne_iff_ne, beq_eq_false_iff_ne, Bool.and_eq_true, Bool.or_eq_true, Bool.and_eq_false_iff, Bool.or_eq_false_iff, ge_iff_le, gt_iff_lt, Int.not_lt, Int.not_le, ne_eq, Decidable.not_not, bne_eq_false_iff_eq] at hc24
            refine r1 ?_
            refine s1 2 147 1 rfl rfl rfl rfl rfl rfl trivial ?_
            refine s1 3 155 2 rfl rfl rfl rfl rfl rfl trivial ?_
            refine e1 163 rfl ?_
            refine keep [2, 3] rfl ?_
            refine W_ret ?_
            refine tr ?_
            have hE : decE l = 4 := (by rw [hend, if_neg (by unfold restOK; omega)])
            exact out2 2 3 (.d .nils) (SV.i (decE l)) (π := []) (hout := []) Tryd.results13 rfl rfl rfl (by rw [hE]; rfl) rfl rfl trivial (.inr ⟨by rw [hE]; first | decide | assumption, rfl, rfl⟩)
          · skip
            exact absurd hc24 (by decide)
        · skip
          try simp only [decide_eq_true_eq, decide_eq_false_iff_not, Bool.not_eq_true', Bool.not_eq_false', beq_iff_eq, bne_iff_ne, beq_eq_false_iff_ne, Bool.and_eq_true, Bool.or_eq_true, Bool.and_eq_false_iff, Bool.or_eq_false_iff, ge_iff_le, gt_iff_lt, Int.not_lt, Int.not_le, ne_eq, Decidable.not_not, bne_eq_false_iff_eq] at hg24_70
          refine g1 2 false 70 71 4 rfl rfl rfl rfl rfl ?_
          refine s1 71 115 4 rfl rfl rfl rfl rfl rfl trivial ?_
          refine g1 2 false 70 72 5 rfl rfl rfl rfl rfl ?_
          refine c1 (left_any l hlb (n + ((8 * l.length - n) % 8)) (by omega)) [0] [0] 72 123 5 rfl rfl rfl rfl rfl rfl rfl rfl Tryd.func42 rfl rfl rfl rfl ⟨rfl, trivial⟩ rfl rfl ?_
          refine g1 2 false 70 73 6 rfl rfl rfl rfl rfl ?_
          refine s1 73 131 6 rfl rfl rfl rfl rfl rfl (by first | trivial | omega | (simp only [List.length_map, List.length_append, List.length_cons, List.length_nil] at *; omega)) ?_
          refine s1 74 139 7 rfl rfl rfl rfl rfl rfl trivial ?_
          refine e1 147 rfl ?_
          refine keep [7, 74] rfl ?_
          refine q1 rfl (fun hc24 => ?_) (fun hc24 => ?_)
          · skip
            try simp only [decide_eq_true_eq, decide_eq_false_iff_not, Bool.not_eq_true', Bool.not_eq_false', beq_iff_eq, bne_iff_ne, beq_eq_false_iff_ne, Bool.and_eq_true, Bool.or_eq_true, Bool.and_eq_false_iff, Bool.or_eq_false_iff, ge_iff_le, gt_iff_lt, Int.not_lt, Int.not_le, ne_eq, Decidable.not_not, bne_eq_false_iff_eq] at hc24
            refine r1 ?_
            refine s1 2 147 1 rfl rfl rfl rfl rfl rfl trivial ?_
            refine s1 3 155 2 rfl rfl rfl rfl rfl rfl trivial ?_
            refine e1 163 rfl ?_
            refine keep [2, 3] rfl ?_
            refine W_ret ?_
            refine tr ?_
            have hE : decE l = 4 := (by rw [hend, if_neg (by unfold restOK; omega)])
            exact out2 2 3 (.d .nils) (SV.i (decE l)) (π := []) (hout := []) Tryd.results13 rfl rfl rfl (by rw [hE]; rfl) rfl rfl trivial (.inr ⟨by rw [hE]; first | decide | assumption, rfl, rfl⟩)
          · skip
            try simp only [decide_eq_true_eq, decide_eq_false_iff_not, Bool.not_eq_true', Bool.not_eq_false', beq_iff_eq, bne_iff_ne, beq_eq_false_iff_ne, Bool.and_eq_true, Bool.or_eq_true, Bool.and_eq_false_iff, Bool.or_eq_false_iff, ge_iff_le, gt_iff_lt, Int.not_lt, Int.not_le, ne_eq, Decidable.not_not, bne_eq_false_iff_eq] at hc24
            refine W_skip ?_
            refine tn ?_
            refine r1 ?_
            refine s1 75 147 1 rfl rfl rfl rfl rfl rfl trivial ?_
            refine s1 2 155 2 rfl rfl rfl rfl rfl rfl trivial ?_
            refine s1 3 163 3 rfl rfl rfl rfl rfl rfl trivial ?_
            refine e1 171 rfl ?_
            refine keep [2, 3] rfl ?_
            refine W_ret ?_
            have hE : decE l = 0 := (by rw [hend, if_pos (by unfold restOK; omega)])
            have hMM : decM l = M := (by unfold decM; rw [hdN])
            exact out2 2 3 (.sl 0 0 (decM l).length) (SV.i 0) (π := [2]) (hout := [some (.rows 49 2 (decM l).length (smpF (decM l)))]) Tryd.results13 rfl rfl (by rw [hMM]; rfl) rfl rfl rfl ⟨(by rw [hMM]; rfl), trivial⟩ (.inl ⟨hE, rfl, rfl⟩)

end Go.Proofs.YtiedndnegmbkiaaDoor.Nice
