/- Part 10 of the proof of CrewRolls: ChunkDec, CoJ, ChunkDecR, ChunkCan, ChunkDecoded. -/
import Derived.Test.YtpdojmebloekgaaDoorZR9
namespace Go.Proofs.YtpdojmebloekgaaDoor.Nice.Co
open Go
set_option linter.unusedVariables false
set_option linter.unusedSimpArgs false
set_option maxRecDepth 100000
set_option maxHeartbeats 4000000
/-- The sample that codes tell behind those before. -/
def sampleOf (a : Lst) (x y : Int) : Smp := if a.n = 0 then ⟨x, y⟩ else ⟨a.t + a.st + x, a.v + y⟩
structure DecS where
  M : List Smp
  n : Nat
  e : Int
def decStep (l : List Int) (k : Nat) (p : DecS) : DecS :=
  if p.e ≠ 0 then p
  else if (zgt l p.n).e ≠ 0 then ⟨p.M, 0, (zgt l p.n).e⟩
  else if (zgt l (zgt l p.n).at').e ≠ 0 then ⟨p.M, 0, (zgt l (zgt l p.n).at').e⟩
  else if lfault (lstN p.M k) (sampleOf (lstN p.M k) (zgt l p.n).x (zgt l (zgt l p.n).at').x) ≠ 0 then ⟨p.M, 0, 4⟩
  else ⟨p.M ++ [sampleOf (lstN p.M k) (zgt l p.n).x (zgt l (zgt l p.n).at').x], (zgt l (zgt l p.n).at').at', 0⟩
def decS (l : List Int) : Nat → DecS
  | 0 => ⟨[], 8, 0⟩
  | k + 1 => decStep l k (decS l k)
def restOK (l : List Int) (n : Nat) : Prop := numB l n ((8 * l.length - n) % 8) = 0 ∧ 8 * l.length - n < 8
instance (l : List Int) (n : Nat) : Decidable (restOK l n) := inferInstanceAs (Decidable (_ ∧ _))
def decN (l : List Int) : Nat := (numB l 0 8).toNat
def decE (l : List Int) : Int := if l.length = 0 then 5 else if 120 < numB l 0 8 then 4 else if (decS l (decN l)).e ≠ 0 then (decS l (decN l)).e else if restOK l (decS l (decN l)).n then 0 else 4
def decM (l : List Int) : List Smp := (decS l (decN l)).M
theorem decS_stay {l : List Int} {k n : Nat} (hk : k ≤ n) (h : (decS l k).e ≠ 0) : decS l n = decS l k := by
  induction n with
  | zero => obtain rfl : k = 0 := by omega
            rfl
  | succ n ih =>
    rcases Nat.lt_or_ge n k with hlt | hge
    · obtain rfl : k = n + 1 := by omega
      rfl
    · have := ih hge
      show decStep l n (decS l n) = _
      unfold decStep
      rw [if_pos (by rw [this]; exact h), this]
theorem dec_e1 {l : List Int} {k n : Nat} {M : List Smp} (h : decS l k = ⟨M, n, 0⟩) (h1 : (zgt l n).e ≠ 0) : (decS l (k + 1)).e = (zgt l n).e := by
  show (decStep l k (decS l k)).e = _
  unfold decStep; rw [h]; simp only [ne_eq, not_true, if_false]; rw [if_pos h1]
theorem dec_e2 {l : List Int} {k n : Nat} {M : List Smp} (h : decS l k = ⟨M, n, 0⟩) (h1 : (zgt l n).e = 0) (h2 : (zgt l (zgt l n).at').e ≠ 0) : (decS l (k + 1)).e = (zgt l (zgt l n).at').e := by
  show (decStep l k (decS l k)).e = _
  unfold decStep; rw [h]; simp only [ne_eq, not_true, if_false]; rw [if_neg (by omega), if_pos h2]
theorem dec_e3 {l : List Int} {k n : Nat} {M : List Smp} (h : decS l k = ⟨M, n, 0⟩) (h1 : (zgt l n).e = 0) (h2 : (zgt l (zgt l n).at').e = 0) (h3 : lfault (lstN M k) (sampleOf (lstN M k) (zgt l n).x (zgt l (zgt l n).at').x) ≠ 0) : (decS l (k + 1)).e = 4 := by
  show (decStep l k (decS l k)).e = _
  unfold decStep; rw [h]; simp only [ne_eq, not_true, if_false]; rw [if_neg (by omega), if_neg (by omega), if_pos h3]
theorem dec_e4 {l : List Int} {k n : Nat} {M : List Smp} (h : decS l k = ⟨M, n, 0⟩) (h1 : (zgt l n).e = 0) (h2 : (zgt l (zgt l n).at').e = 0) (h3 : lfault (lstN M k) (sampleOf (lstN M k) (zgt l n).x (zgt l (zgt l n).at').x) = 0) : decS l (k + 1) = ⟨M ++ [sampleOf (lstN M k) (zgt l n).x (zgt l (zgt l n).at').x], (zgt l (zgt l n).at').at', 0⟩ := by
  show (decStep l k (decS l k)) = _
  unfold decStep; rw [h]; simp only [ne_eq, not_true, if_false]; rw [if_neg (by omega), if_neg (by omega), if_neg (by omega)]
theorem decE_loop {l : List Int} {k : Nat} (h0 : l.length ≠ 0) (h1 : numB l 0 8 ≤ 120) (hk : k ≤ decN l) (h : (decS l k).e ≠ 0) : decE l = (decS l k).e := by
  unfold decE
  rw [if_neg h0, if_neg (by omega), decS_stay hk h, if_pos h]
theorem decE_end {l : List Int} {n : Nat} {M : List Smp} (h0 : l.length ≠ 0) (h1 : numB l 0 8 ≤ 120) (h : decS l (decN l) = ⟨M, n, 0⟩) : decE l = if restOK l n then 0 else 4 := by
  unfold decE
  rw [if_neg h0, if_neg (by omega), h]; rfl
theorem lstN_pre (M : List Smp) (s : Smp) : ∀ k, k ≤ M.length → lstN (M ++ [s]) k = lstN M k
  | 0, _ => rfl
  | k + 1, h => by
    show nxt (lstN (M ++ [s]) k) ((M ++ [s]).getD k default) = nxt (lstN M k) (M.getD k default)
    rw [lstN_pre M s k (by omega)]
    have : (M ++ [s]).getD k default = M.getD k default := by simp only [List.getD]; rw [List.getElem?_append_left (by omega)]
    rw [this]
theorem faultTo_pre (M : List Smp) (s : Smp) : ∀ k, k ≤ M.length → faultTo (M ++ [s]) k = faultTo M k
  | 0, _ => rfl
  | k + 1, h => by
    show (if faultTo (M ++ [s]) k = 0 then lfault (lstN (M ++ [s]) k) ((M ++ [s]).getD k default) else faultTo (M ++ [s]) k) = (if faultTo M k = 0 then lfault (lstN M k) (M.getD k default) else faultTo M k)
    rw [lstN_pre M s k (by omega), faultTo_pre M s k (by omega)]
    have : (M ++ [s]).getD k default = M.getD k default := by simp only [List.getD]; rw [List.getElem?_append_left (by omega)]
    rw [this]
theorem getD_last (M : List Smp) (s : Smp) : (M ++ [s]).getD M.length default = s := by simp [List.getD]
theorem faultTo_snoc (M : List Smp) (s : Smp) (h : faultTo M M.length = 0) : faultTo (M ++ [s]) (M.length + 1) = lfault (lstN M M.length) s := by
  show (if faultTo (M ++ [s]) M.length = 0 then lfault (lstN (M ++ [s]) M.length) ((M ++ [s]).getD M.length default) else faultTo (M ++ [s]) M.length) = _
  rw [faultTo_pre M s _ (Nat.le_refl _), if_pos h, lstN_pre M s _ (Nat.le_refl _), getD_last]
theorem lstN_snoc (M : List Smp) (s : Smp) : lstN (M ++ [s]) (M.length + 1) = nxt (lstN M M.length) s := by
  show nxt (lstN (M ++ [s]) M.length) ((M ++ [s]).getD M.length default) = _
  rw [lstN_pre M s _ (Nat.le_refl _), getD_last]
theorem cat_smp' {A : List Smp} {s : Smp} (i c : Nat) (hi : i < A.length + 1) (hc : c < 2) : catR (smpF A) A.length (litR 2 [.val (.int .i64 s.t), .val (.int .i64 s.v)]) i c = smpF (A ++ [s]) i c := by
  unfold catR smpF
  by_cases h : i < A.length
  · rw [if_pos h]; simp [List.getD, List.getElem?_append_left h]
  · obtain rfl : i = A.length := by omega
    rw [if_neg (Nat.lt_irrefl _)]
    have : (A ++ [s]).getD A.length default = s := by simp [List.getD]
    rw [this, Nat.sub_self]
    match c, hc with
    | 0, _ => rfl
    | 1, _ => rfl
theorem sample_any (a : Lst) (x y : Int) (ha : LstIn a) (hx : isSm x) (hy : isSm y) : Spec Tryd.prog GC 47 [.ptr 0 0 0, SV.i x, SV.i y] [.cells 69 4 (lstX a)] (fun r ho => r = smpS (sampleOf a x y) ∧ ho = [some (.cells 69 4 (lstX a))]) := by
  obtain ⟨⟨h1, h2⟩, ⟨h3, h4⟩, ⟨h5, h6⟩, h7, h8⟩ := ha
  obtain ⟨g1a, g2a⟩ := hx
  obtain ⟨g3a, g4a⟩ := hy
  refine start 35 1 Tryd.func47 rfl rfl rfl rfl ?_
  refine r1 ?_
  refine s1 6 1 1 rfl rfl rfl rfl rfl rfl trivial ?_
  refine e1 9 rfl ?_
  refine keep [0, 1, 2, 6] rfl ?_
  refine W_seq ?_
  refine r1 ?_
  refine s1 7 9 1 rfl rfl rfl rfl rfl rfl trivial ?_
  refine s1 8 17 2 rfl rfl rfl rfl rfl rfl trivial ?_
  refine s1 9 25 3 rfl rfl rfl rfl rfl rfl trivial ?_
  refine s1 10 33 4 rfl rfl rfl rfl rfl rfl (by first | trivial | omega) ?_
  refine s1 11 41 5 rfl rfl rfl rfl rfl rfl (by first | trivial | omega) ?_
  refine e1 49 rfl ?_
  refine keep [0, 1, 2, 6, 11] rfl ?_
  refine q1 rfl (fun hc1 => ?_) (fun hc1 => ?_)
  · skip
    try simp only [cs, ne_eq] at hc1
    refine r1 ?_
    refine s1 12 49 1 rfl rfl rfl rfl rfl rfl trivial ?_
    refine s1 13 57 2 rfl rfl rfl rfl rfl rfl trivial ?_
    refine s1 14 65 3 rfl rfl rfl rfl rfl rfl trivial ?_
    refine s0 73 4 rfl rfl rfl rfl rfl (by first | trivial | omega) ?_
    refine e1 81 rfl ?_
    refine keep [6] rfl ?_
    refine W_ret ?_
    refine tr ?_
    exact outN (smpS (sampleOf a x y)) (π := [0]) (hout := [some (.cells 69 4 (lstX a))]) Tryd.results47 rfl (by trivial) (by unfold sampleOf; rw [if_pos (by omega)]; rfl) rfl rfl ⟨rfl, trivial⟩ ⟨rfl, rfl⟩
  try simp only [cs, ne_eq] at hc1
  refine W_skip ?_
  refine tn ?_
  refine rd1 rfl ?_
  refine d1 15 49 1 rfl rfl rfl rfl rfl rfl trivial ?_
  refine d1 16 57 2 rfl rfl rfl rfl rfl rfl trivial ?_
  refine d1 17 65 3 rfl rfl rfl rfl rfl rfl trivial ?_
  refine d1 18 73 4 rfl rfl rfl rfl rfl rfl trivial ?_
  refine d1 19 81 5 rfl rfl rfl rfl rfl rfl (by first | trivial | omega) ?_
  refine d1 20 89 6 rfl rfl rfl rfl rfl rfl trivial ?_
  refine d1 21 97 7 rfl rfl rfl rfl rfl rfl trivial ?_
  refine d1 22 105 8 rfl rfl rfl rfl rfl rfl trivial ?_
  refine d1 23 113 9 rfl rfl rfl rfl rfl rfl (by first | trivial | omega) ?_
  refine dA 24 121 10 rfl rfl rfl rfl rfl rfl rfl rfl rfl (by unfold inRange; omega) ?_
  refine d1 25 129 11 rfl rfl rfl rfl rfl rfl trivial ?_
  refine dA 26 137 12 rfl rfl rfl rfl rfl rfl rfl rfl rfl (by unfold inRange; omega) ?_
  refine d1 27 145 13 rfl rfl rfl rfl rfl rfl trivial ?_
  refine d1 28 153 14 rfl rfl rfl rfl rfl rfl trivial ?_
  refine d1 29 161 15 rfl rfl rfl rfl rfl rfl trivial ?_
  refine d1 30 169 16 rfl rfl rfl rfl rfl rfl trivial ?_
  refine d1 31 177 17 rfl rfl rfl rfl rfl rfl (by first | trivial | omega) ?_
  refine d1 32 185 18 rfl rfl rfl rfl rfl rfl trivial ?_
  refine dA 33 193 19 rfl rfl rfl rfl rfl rfl rfl rfl rfl (by unfold inRange; omega) ?_
  refine d1 34 201 20 rfl rfl rfl rfl rfl rfl trivial ?_
  refine d0 209 21 rfl rfl rfl rfl rfl (by first | trivial | omega) ?_
  refine de1 217 rfl (by kernel_rfl) ?_
  refine keep [6] rfl ?_
  refine W_ret ?_
  exact outN (smpS (sampleOf a x y)) (π := [0]) (hout := [some (.cells 69 4 (lstX a))]) Tryd.results47 rfl (by trivial) (by unfold sampleOf; rw [if_neg (by omega)]; rfl) rfl rfl ⟨rfl, trivial⟩ ⟨rfl, rfl⟩
theorem decode_any (l : List Int) (hl : Bytes l) : Spec Tryd.prog GC 19 [u8V l] [] (fun r ho => (decE l = 0 ∧ r = SV.tup [.sl 0 0 (decM l).length, SV.i 0] ∧ ho = [some (.rows 67 2 (decM l).length (smpF (decM l)))]) ∨ (decE l ≠ 0 ∧ r = SV.tup [.d .nils, SV.i (decE l)] ∧ ho = [])) := by
  have hlb := hl
  obtain ⟨hl1, hl2⟩ := hl
  refine start 76 0 Tryd.func19 rfl rfl rfl rfl ?_
  refine r1 ?_
  refine s1 2 0 1 rfl rfl rfl rfl rfl rfl trivial ?_
  refine s1 3 8 2 rfl rfl rfl rfl rfl rfl trivial ?_
  refine e1 16 rfl ?_
  refine keep [0] rfl ?_
  refine r1 ?_
  refine s1 15 16 1 rfl rfl rfl rfl rfl rfl trivial ?_
  refine c1 (open_any l) [] [24] 16 24 2 rfl rfl rfl rfl rfl rfl rfl rfl Tryd.func44 rfl rfl rfl rfl trivial rfl rfl ?_
  refine s1 4 32 3 rfl rfl rfl rfl rfl rfl trivial ?_
  refine e1 40 rfl ?_
  refine keep [4] rfl ?_
  refine r1 ?_
  refine s1 18 40 1 rfl rfl rfl rfl rfl rfl trivial ?_
  refine c1 (get_any l hlb 0 (by omega) 8 (by decide)) [24] [24] 19 48 2 rfl rfl rfl rfl rfl rfl rfl rfl Tryd.func45 rfl rfl rfl rfl ⟨rfl, trivial⟩ rfl rfl ?_
  refine s1 17 56 3 rfl rfl rfl rfl rfl rfl trivial ?_
  refine s1 20 64 4 rfl rfl rfl rfl rfl rfl trivial ?_
  refine s1 21 72 5 rfl rfl rfl rfl rfl rfl trivial ?_
  refine s1 5 80 6 rfl rfl rfl rfl rfl rfl trivial ?_
  refine s1 6 88 7 rfl rfl rfl rfl rfl rfl trivial ?_
  refine e1 96 rfl ?_
  refine keep [4, 5, 6] rfl ?_
  refine W_seq ?_
  refine W_block ?_
  refine r1 ?_
  refine s1 23 96 1 rfl rfl rfl rfl rfl rfl trivial ?_
  refine s1 24 104 2 rfl rfl rfl rfl rfl rfl trivial ?_
  refine s1 22 112 3 rfl rfl rfl rfl rfl rfl trivial ?_
  refine e1 120 rfl ?_
  refine keep [4, 5, 22] rfl ?_
  refine q1 rfl (fun hc3 => ?_) (fun hc3 => ?_)
  · skip
    try simp only [cs, ne_eq] at hc3
    refine r1 ?_
    refine s1 2 120 1 rfl rfl rfl rfl rfl rfl trivial ?_
    refine s1 3 128 2 rfl rfl rfl rfl rfl rfl trivial ?_
    refine e1 136 rfl ?_
    refine keep [2, 3] rfl ?_
    refine W_ret ?_
    refine br ?_
    refine tr ?_
    have hE : decE l = 5 := (by unfold decE; rw [if_pos (by simp [gok] at hc3; omega)])
    exact out2 2 3 (.d .nils) (SV.i (decE l)) (π := []) (hout := []) Tryd.results19 rfl rfl rfl (by rw [hE]; rfl) rfl rfl trivial (.inr ⟨by rw [hE]; first | decide | assumption, rfl, rfl⟩)
  try simp only [cs, ne_eq] at hc3
  have h0 : l.length ≠ 0 := (by simp [gok] at hc3; omega)
  have hok8 : 0 + 8 ≤ 8 * l.length := (by omega)
  have hgv : gval l 0 8 = numB l 0 8 := if_pos hok8
  have hgp : gpos l 0 8 = 8 := if_pos hok8
  refine r1 ?_
  refine s1 26 120 1 rfl rfl rfl rfl rfl rfl trivial ?_
  refine s1 27 128 2 rfl rfl rfl rfl rfl rfl (by first | trivial | omega) ?_
  refine s1 25 136 3 rfl rfl rfl rfl rfl rfl trivial ?_
  refine e1 144 rfl ?_
  refine keep [4, 5, 25] rfl ?_
  refine q1 rfl (fun hc5 => ?_) (fun hc5 => ?_)
  · skip
    try simp only [cs, ne_eq] at hc5
    refine r1 ?_
    refine s1 2 144 1 rfl rfl rfl rfl rfl rfl trivial ?_
    refine s1 3 152 2 rfl rfl rfl rfl rfl rfl trivial ?_
    refine e1 160 rfl ?_
    refine keep [2, 3] rfl ?_
    refine W_ret ?_
    refine br ?_
    refine tr ?_
    have hE : decE l = 4 := (by unfold decE; rw [if_neg h0, if_pos (by rw [← hgv]; simpa using hc5)])
    exact out2 2 3 (.d .nils) (SV.i (decE l)) (π := []) (hout := []) Tryd.results19 rfl rfl rfl (by rw [hE]; rfl) rfl rfl trivial (.inr ⟨by rw [hE]; first | decide | assumption, rfl, rfl⟩)
  try simp only [cs, ne_eq] at hc5
  have hN : numB l 0 8 ≤ 120 := (by rw [← hgv]; omega)
  have hN0 := (numB_bd l 0 8).1
  refine W_skip ?_
  refine bn ?_
  refine tn ?_
  refine r1 ?_
  refine s1 7 144 1 rfl rfl rfl rfl rfl rfl trivial ?_
  refine e1 152 rfl ?_
  refine keep [4, 5, 7] rfl ?_
  refine r1 ?_
  refine s1 8 152 1 rfl rfl rfl rfl rfl rfl trivial ?_
  refine e1 160 rfl ?_
  refine keep [4, 5, 7, 8] rfl ?_
  refine W_seq ?_
  refine cval 5 (SV.i (numB l 0 8)) rfl (by rw [hgv]) ?_
  refine chval 24 (.cells 127 2 [u8V l, SV.i (8 : Nat)]) rfl (by rw [hgp]; rfl) ?_
  refine r1 ?_
  refine s1 28 160 1 rfl rfl rfl rfl rfl rfl trivial ?_
  refine s1 29 168 2 rfl rfl rfl rfl rfl rfl trivial ?_
  refine e1 176 rfl ?_
  refine keep [4, 7, 8, 28, 29] rfl ?_
  refine W_block ?_
  refine ghostly 7 67 2 (smpF []) rfl ?_
  refine loop (α := Nat × Nat × List Smp) 3 (fun z => [(4, .ptr 0 0 0), (7, .sl 2 0 (z.2.2).length), (8, .ptr 1 0 0), (28, SV.i (numB l 0 8)), (29, SV.i (z.1))]) (fun z => [some (.cells 127 2 [u8V l, SV.i ((z.2.1) : Nat)]), some (.cells 69 4 (lstX (lstN (z.2.2) (z.1)))), some (.rows 67 2 (z.2.2).length (smpF (z.2.2)))]) (fun z => ((z.1) : Int) ≤ numB l 0 8 ∧ decS l (z.1) = ⟨(z.2.2), (z.2.1), 0⟩ ∧ (z.2.2).length = (z.1) ∧ faultTo (z.2.2) (z.1) = 0 ∧ (z.2.1) ≤ 8 * l.length) (fun z => (numB l 0 8).toNat - (z.1)) (((0, 8, []) : Nat × Nat × List Smp)) [24, 152, 176] (fun _ => rfl) (show ((0) : Int) ≤ numB l 0 8 ∧ decS l (0) = ⟨([]), (8), 0⟩ ∧ ([]).length = (0) ∧ faultTo ([]) (0) = 0 ∧ (8) ≤ 8 * l.length from ⟨hN0, rfl, rfl, rfl, by omega⟩) rfl ⟨rfl, rfl, rfl, rfl, rfl, trivial⟩ ⟨rfl, rfl, rfl, trivial⟩ (fun z hx => ?_)
  obtain ⟨k, n, M⟩ := z
  show W _ _ _ ⟨tOf [(4, .ptr 0 0 0), (7, .sl 2 0 M.length), (8, .ptr 1 0 0), (28, SV.i (numB l 0 8)), (29, SV.i k)], hOf [some (.cells 127 2 [u8V l, SV.i (n : Nat)]), some (.cells 69 4 (lstX (lstN M k))), some (.rows 67 2 M.length (smpF M))], 3⟩
  have hx : (k : Int) ≤ numB l 0 8 ∧ decS l k = ⟨M, n, 0⟩ ∧ M.length = k ∧ faultTo M k = 0 ∧ n ≤ 8 * l.length := hx
  obtain ⟨hk, hd, hMl, hf, hn⟩ := hx
  have ha := lst_in hf (by omega)
  refine r1 ?_
  refine s1 30 3 1 rfl rfl rfl rfl rfl rfl (by first | trivial | omega) ?_
  refine e1 11 rfl ?_
  refine keep [4, 7, 8, 28, 29, 30] rfl ?_
  refine W_seq ?_
  refine q1 rfl (fun hc10 => ?_) (fun hc10 => ?_)
  · skip
    try simp only [cs, ne_eq] at hc10
    refine W_skip ?_
    refine tn ?_
    refine W_seq ?_
    refine W_block ?_
    refine r1 ?_
    refine s1 32 11 1 rfl rfl rfl rfl rfl rfl trivial ?_
    refine c1 (zget_any l hlb n hn) [0] [0] 33 19 2 rfl rfl rfl rfl rfl rfl rfl rfl Tryd.func46 rfl rfl rfl rfl ⟨rfl, trivial⟩ rfl rfl ?_
    refine s1 31 27 3 rfl rfl rfl rfl rfl rfl trivial ?_
    refine s1 34 35 4 rfl rfl rfl rfl rfl rfl trivial ?_
    refine s1 35 43 5 rfl rfl rfl rfl rfl rfl trivial ?_
    refine s1 9 51 6 rfl rfl rfl rfl rfl rfl trivial ?_
    refine s1 10 59 7 rfl rfl rfl rfl rfl rfl trivial ?_
    refine e1 67 rfl ?_
    refine keep [4, 7, 8, 9, 10, 28, 29] rfl ?_
    refine W_seq ?_
    refine r1 ?_
    refine s1 36 67 1 rfl rfl rfl rfl rfl rfl trivial ?_
    refine s1 37 75 2 rfl rfl rfl rfl rfl rfl (by first | trivial | omega) ?_
    refine e1 83 rfl ?_
    refine keep [4, 7, 8, 9, 10, 28, 29, 37] rfl ?_
    refine q1 rfl (fun hc12 => ?_) (fun hc12 => ?_)
    · skip
      try simp only [cs, ne_eq] at hc12
      refine r1 ?_
      refine s1 38 83 1 rfl rfl rfl rfl rfl rfl trivial ?_
      refine s1 2 91 2 rfl rfl rfl rfl rfl rfl trivial ?_
      refine s1 3 99 3 rfl rfl rfl rfl rfl rfl trivial ?_
      refine e1 107 rfl ?_
      refine keep [2, 3] rfl ?_
      refine W_ret ?_
      refine tr ?_
      refine br ?_
      refine tr ?_
      refine tr ?_
      refine br ?_
      refine tr ?_
      have he := dec_e1 hd hc12
      have hE : decE l = (zgt l n).e := (by rw [decE_loop h0 hN (show k + 1 ≤ decN l by unfold decN; omega) (by rw [he]; exact hc12), he])
      exact out2 2 3 (.d .nils) (SV.i (decE l)) (π := []) (hout := []) Tryd.results19 rfl rfl rfl (by rw [hE]; rfl) rfl rfl trivial (.inr ⟨by rw [hE]; first | decide | assumption, rfl, rfl⟩)
    try simp only [cs, ne_eq] at hc12
    refine W_skip ?_
    refine tn ?_
    refine r1 ?_
    refine s1 40 83 1 rfl rfl rfl rfl rfl rfl trivial ?_
    refine c1 (zget_any l hlb ((zgt l n).at') (zgt_le l n hn)) [0] [0] 41 91 2 rfl rfl rfl rfl rfl rfl rfl rfl Tryd.func46 rfl rfl rfl rfl ⟨rfl, trivial⟩ rfl rfl ?_
    refine s1 39 99 3 rfl rfl rfl rfl rfl rfl trivial ?_
    refine s1 42 107 4 rfl rfl rfl rfl rfl rfl trivial ?_
    refine s1 43 115 5 rfl rfl rfl rfl rfl rfl trivial ?_
    refine s1 11 123 6 rfl rfl rfl rfl rfl rfl trivial ?_
    refine s1 10 131 7 rfl rfl rfl rfl rfl rfl trivial ?_
    refine e1 139 rfl ?_
    refine keep [4, 7, 8, 9, 10, 11, 28, 29] rfl ?_
    refine W_seq ?_
    refine r1 ?_
    refine s1 44 139 1 rfl rfl rfl rfl rfl rfl trivial ?_
    refine s1 45 147 2 rfl rfl rfl rfl rfl rfl (by first | trivial | omega) ?_
    refine e1 155 rfl ?_
    refine keep [4, 7, 8, 9, 10, 11, 28, 29, 45] rfl ?_
    refine q1 rfl (fun hc15 => ?_) (fun hc15 => ?_)
    · skip
      try simp only [cs, ne_eq] at hc15
      refine r1 ?_
      refine s1 46 155 1 rfl rfl rfl rfl rfl rfl trivial ?_
      refine s1 2 163 2 rfl rfl rfl rfl rfl rfl trivial ?_
      refine s1 3 171 3 rfl rfl rfl rfl rfl rfl trivial ?_
      refine e1 179 rfl ?_
      refine keep [2, 3] rfl ?_
      refine W_ret ?_
      refine tr ?_
      refine br ?_
      refine tr ?_
      refine tr ?_
      refine br ?_
      refine tr ?_
      have he := dec_e2 hd hc12 hc15
      have hE : decE l = (zgt l ((zgt l n).at')).e := (by rw [decE_loop h0 hN (show k + 1 ≤ decN l by unfold decN; omega) (by rw [he]; exact hc15), he])
      exact out2 2 3 (.d .nils) (SV.i (decE l)) (π := []) (hout := []) Tryd.results19 rfl rfl rfl (by rw [hE]; rfl) rfl rfl trivial (.inr ⟨by rw [hE]; first | decide | assumption, rfl, rfl⟩)
    try simp only [cs, ne_eq] at hc15
    refine W_skip ?_
    refine tn ?_
    refine r1 ?_
    refine s1 47 155 1 rfl rfl rfl rfl rfl rfl trivial ?_
    refine s1 48 163 2 rfl rfl rfl rfl rfl rfl trivial ?_
    refine c1 (sample_any (lstN M k) (zgt l n).x (zgt l ((zgt l n).at')).x ha (zgt_sm l n) (zgt_sm l _)) [1] [1] 49 171 3 rfl rfl rfl rfl rfl rfl rfl rfl Tryd.func47 rfl rfl rfl rfl ⟨rfl, trivial⟩ rfl rfl ?_
    refine s1 12 179 4 rfl rfl rfl rfl rfl rfl trivial ?_
    refine s0 187 5 rfl rfl rfl rfl rfl (by first | trivial | omega) ?_
    refine e1 195 rfl ?_
    refine keep [4, 7, 8, 12, 28, 29] rfl ?_
    refine W_seq ?_
    refine r1 ?_
    refine s1 50 195 1 rfl rfl rfl rfl rfl rfl (by first | trivial | omega) ?_
    refine c1 (fault_any (lstN M k) (sampleOf (lstN M k) (zgt l n).x (zgt l ((zgt l n).at')).x)) [1] [1] 51 203 2 rfl rfl rfl rfl rfl rfl rfl rfl Tryd.func31 rfl rfl rfl rfl ⟨rfl, trivial⟩ rfl rfl ?_
    refine s1 52 211 3 rfl rfl rfl rfl rfl rfl (by first | trivial | omega) ?_
    refine e1 219 rfl ?_
    refine keep [4, 7, 8, 12, 28, 29, 52] rfl ?_
    refine q1 rfl (fun hc18 => ?_) (fun hc18 => ?_)
    · skip
      try simp only [cs, ne_eq] at hc18
      refine r1 ?_
      refine s1 2 219 1 rfl rfl rfl rfl rfl rfl trivial ?_
      refine s1 3 227 2 rfl rfl rfl rfl rfl rfl trivial ?_
      refine e1 235 rfl ?_
      refine keep [2, 3] rfl ?_
      refine W_ret ?_
      refine tr ?_
      refine br ?_
      refine tr ?_
      refine tr ?_
      refine br ?_
      refine tr ?_
      have he := dec_e3 hd hc12 hc15 hc18
      have hE : decE l = 4 := (by rw [decE_loop h0 hN (show k + 1 ≤ decN l by unfold decN; omega) (by rw [he]; decide), he])
      exact out2 2 3 (.d .nils) (SV.i (decE l)) (π := []) (hout := []) Tryd.results19 rfl rfl rfl (by rw [hE]; rfl) rfl rfl trivial (.inr ⟨by rw [hE]; first | decide | assumption, rfl, rfl⟩)
    try simp only [cs, ne_eq] at hc18
    have hf2 := lfault_zero hc18
    have hds := dec_e4 hd hc12 hc15 hc18
    refine W_skip ?_
    refine tn ?_
    refine r1 ?_
    refine s1 53 219 1 rfl rfl rfl rfl rfl rfl (by first | trivial | omega) ?_
    refine c1 (next_any (lstN M k) (sampleOf (lstN M k) (zgt l n).x (zgt l ((zgt l n).at')).x) ha hf2.1 hf2.2.1) [1] [1] 54 227 2 rfl rfl rfl rfl rfl rfl rfl rfl Tryd.func34 rfl rfl rfl rfl ⟨rfl, trivial⟩ rfl rfl ?_
    refine e1 235 rfl ?_
    refine keep [4, 7, 8, 12, 28, 29] rfl ?_
    refine r0 ?_
    refine s1 55 235 1 rfl rfl rfl rfl rfl rfl trivial ?_
    refine s1 56 243 2 rfl rfl rfl rfl rfl rfl (by first | trivial | omega) ?_
    refine s1 57 251 3 rfl rfl rfl rfl rfl rfl trivial ?_
    refine s1 58 259 4 rfl rfl rfl rfl rfl rfl ⟨Nat.le_refl _, trivial, (by show (M.length + 1) * 16 ≤ 140737488355328; omega), (by simp only [maxLen]; omega)⟩ ?_
    refine s1 7 267 5 rfl rfl rfl rfl rfl rfl trivial ?_
    refine e1 275 rfl ?_
    refine bn ?_
    refine tn ?_
    refine rowsc 259 (M ++ [(sampleOf (lstN M k) (zgt l n).x (zgt l ((zgt l n).at')).x)]).length (smpF (M ++ [(sampleOf (lstN M k) (zgt l n).x (zgt l ((zgt l n).at')).x)])) rfl (by simp) (fun q c hq hc => cat_smp' (s := (sampleOf (lstN M k) (zgt l n).x (zgt l ((zgt l n).at')).x)) q c hq hc) ?_
    refine cval 7 (.sl 259 0 (M ++ [(sampleOf (lstN M k) (zgt l n).x (zgt l ((zgt l n).at')).x)]).length) rfl (by simp) ?_
    have hls : lstN (M ++ [(sampleOf (lstN M k) (zgt l n).x (zgt l ((zgt l n).at')).x)]) (k + 1) = nxt (lstN M k) (sampleOf (lstN M k) (zgt l n).x (zgt l ((zgt l n).at')).x) := (by rw [← hMl]; exact lstN_snoc M _)
    refine chval 1 (.cells 69 4 (lstX (lstN (M ++ [(sampleOf (lstN M k) (zgt l n).x (zgt l ((zgt l n).at')).x)]) (k + 1)))) rfl (by rw [hls]; rfl) ?_
    refine r0 ?_
    refine sA 59 275 1 rfl rfl rfl rfl rfl rfl rfl rfl rfl (by unfold inRange; omega) ?_
    refine s1 29 283 2 rfl rfl rfl rfl rfl rfl trivial ?_
    refine e1 291 rfl ?_
    refine tn ?_
    exact again (((k + 1, (zgt l ((zgt l n).at')).at', M ++ [(sampleOf (lstN M k) (zgt l n).x (zgt l ((zgt l n).at')).x)]) : Nat × Nat × List Smp)) [0, 1, 259] (show ((k + 1) : Int) ≤ numB l 0 8 ∧ decS l (k + 1) = ⟨(M ++ [(sampleOf (lstN M k) (zgt l n).x (zgt l ((zgt l n).at')).x)]), ((zgt l ((zgt l n).at')).at'), 0⟩ ∧ (M ++ [(sampleOf (lstN M k) (zgt l n).x (zgt l ((zgt l n).at')).x)]).length = (k + 1) ∧ faultTo (M ++ [(sampleOf (lstN M k) (zgt l n).x (zgt l ((zgt l n).at')).x)]) (k + 1) = 0 ∧ ((zgt l ((zgt l n).at')).at') ≤ 8 * l.length from ⟨by omega, hds, by simp [hMl], (by rw [← hMl, faultTo_snoc M _ (by rw [hMl]; exact hf), hMl]; exact hc18), zgt_le l _ (zgt_le l n hn)⟩) (show (numB l 0 8).toNat - (k + 1) < (numB l 0 8).toNat - k from (by omega)) rfl ⟨rfl, rfl, rfl, rfl, rfl, trivial⟩ ⟨rfl, rfl, rfl, trivial⟩
  try simp only [cs, ne_eq] at hc10
  refine W_exit ?_
  refine tx ?_
  refine tx ?_
  refine bx ?_
  refine tn ?_
  have hkN : k = decN l := (by unfold decN; omega)
  have hdN : decS l (decN l) = ⟨M, n, 0⟩ := (by rw [← hkN]; exact hd)
  have hend := decE_end h0 hN hdN
  refine r1 ?_
  refine s1 61 11 1 rfl rfl rfl rfl rfl rfl trivial ?_
  refine s1 62 19 2 rfl rfl rfl rfl rfl rfl trivial ?_
  refine c1 (left_any l hlb n hn) [0] [0] 63 27 3 rfl rfl rfl rfl rfl rfl rfl rfl Tryd.func48 rfl rfl rfl rfl ⟨rfl, trivial⟩ rfl rfl ?_
  refine sD 64 35 4 rfl rfl rfl rfl rfl rfl rfl rfl rfl (by omega) ?_
  refine val 64 (SV.i (((8 * l.length - n) % 8) : Nat)) rfl (congrArg (fun x => SV.d (D.val (Value.int .i64 x))) (by omega)) ?_
  refine c1 (get_any l hlb n hn ((8 * l.length - n) % 8) (by omega)) [0] [0] 65 43 5 rfl rfl rfl rfl rfl rfl rfl rfl Tryd.func45 rfl rfl rfl rfl ⟨rfl, trivial⟩ rfl rfl ?_
  refine s1 60 51 6 rfl rfl rfl rfl rfl rfl trivial ?_
  refine s1 66 59 7 rfl rfl rfl rfl rfl rfl trivial ?_
  refine s1 67 67 8 rfl rfl rfl rfl rfl rfl trivial ?_
  refine s1 13 75 9 rfl rfl rfl rfl rfl rfl trivial ?_
  refine s1 14 83 10 rfl rfl rfl rfl rfl rfl trivial ?_
  refine e1 91 rfl ?_
  refine keep [4, 7, 13] rfl ?_
  refine W_seq ?_
  have hok : n + ((8 * l.length - n) % 8) ≤ 8 * l.length := (by omega)
  have hgv2 : gval l n ((8 * l.length - n) % 8) = numB l n ((8 * l.length - n) % 8) := if_pos hok
  have hgp2 : gpos l n ((8 * l.length - n) % 8) = n + ((8 * l.length - n) % 8) := if_pos hok
  have hnb := (numB_bd l n ((8 * l.length - n) % 8)).1
  refine cval 13 (SV.i (numB l n ((8 * l.length - n) % 8))) rfl (by rw [hgv2]) ?_
  refine chval 0 (.cells 127 2 [u8V l, SV.i (n + ((8 * l.length - n) % 8) : Nat)]) rfl (by rw [hgp2]; rfl) ?_
  refine r1 ?_
  refine s1 68 91 1 rfl rfl rfl rfl rfl rfl trivial ?_
  refine s1 69 99 2 rfl rfl rfl rfl rfl rfl (by first | trivial | omega) ?_
  refine s1 70 107 3 rfl rfl rfl rfl rfl rfl trivial ?_
  refine ask 70 rfl (fun hg24_70 => ?_) (fun hg24_70 => ?_)
  · skip
    try simp only [cs, ne_eq] at hg24_70
    refine g0 2 false 70 71 4 rfl rfl rfl rfl rfl rfl ?_
    refine g0 2 false 70 72 5 rfl rfl rfl rfl rfl rfl ?_
    refine g0 2 false 70 73 6 rfl rfl rfl rfl rfl rfl ?_
    refine s1 74 139 7 rfl rfl rfl rfl rfl rfl trivial ?_
    refine e1 147 rfl ?_
    refine keep [7, 74] rfl ?_
    refine q1 rfl (fun hc24 => ?_) (fun hc24 => ?_)
    · skip
      try simp only [cs, ne_eq] at hc24
      refine r1 ?_
      refine s1 2 147 1 rfl rfl rfl rfl rfl rfl trivial ?_
      refine s1 3 155 2 rfl rfl rfl rfl rfl rfl trivial ?_
      refine e1 163 rfl ?_
      refine keep [2, 3] rfl ?_
      refine W_ret ?_
      refine tr ?_
      have hE : decE l = 4 := (by rw [hend, if_neg (by unfold restOK; omega)])
      exact out2 2 3 (.d .nils) (SV.i (decE l)) (π := []) (hout := []) Tryd.results19 rfl rfl rfl (by rw [hE]; rfl) rfl rfl trivial (.inr ⟨by rw [hE]; first | decide | assumption, rfl, rfl⟩)
    exact absurd hc24 (by decide)
  try simp only [cs, ne_eq] at hg24_70
  refine g1 2 false 70 71 4 rfl rfl rfl rfl rfl ?_
  refine s1 71 115 4 rfl rfl rfl rfl rfl rfl trivial ?_
  refine g1 2 false 70 72 5 rfl rfl rfl rfl rfl ?_
  refine c1 (left_any l hlb (n + ((8 * l.length - n) % 8)) (by omega)) [0] [0] 72 123 5 rfl rfl rfl rfl rfl rfl rfl rfl Tryd.func48 rfl rfl rfl rfl ⟨rfl, trivial⟩ rfl rfl ?_
  refine g1 2 false 70 73 6 rfl rfl rfl rfl rfl ?_
  refine s1 73 131 6 rfl rfl rfl rfl rfl rfl (by first | trivial | omega) ?_
  refine s1 74 139 7 rfl rfl rfl rfl rfl rfl trivial ?_
  refine e1 147 rfl ?_
  refine keep [7, 74] rfl ?_
  refine q1 rfl (fun hc24 => ?_) (fun hc24 => ?_)
  · skip
    try simp only [cs, ne_eq] at hc24
    refine r1 ?_
    refine s1 2 147 1 rfl rfl rfl rfl rfl rfl trivial ?_
    refine s1 3 155 2 rfl rfl rfl rfl rfl rfl trivial ?_
    refine e1 163 rfl ?_
    refine keep [2, 3] rfl ?_
    refine W_ret ?_
    refine tr ?_
    have hE : decE l = 4 := (by rw [hend, if_neg (by unfold restOK; omega)])
    exact out2 2 3 (.d .nils) (SV.i (decE l)) (π := []) (hout := []) Tryd.results19 rfl rfl rfl (by rw [hE]; rfl) rfl rfl trivial (.inr ⟨by rw [hE]; first | decide | assumption, rfl, rfl⟩)
  try simp only [cs, ne_eq] at hc24
  refine W_skip ?_
  refine tn ?_
  refine r1 ?_
  refine s1 75 147 1 rfl rfl rfl rfl rfl rfl trivial ?_
  refine s1 2 155 2 rfl rfl rfl rfl rfl rfl trivial ?_
  refine s1 3 163 3 rfl rfl rfl rfl rfl rfl trivial ?_
  refine e1 171 rfl ?_
  refine keep [2, 3] rfl ?_
  refine W_ret ?_
  have hE : decE l = 0 := (by rw [hend, if_pos (by unfold restOK; omega)])
  have hMM : decM l = M := (by unfold decM; rw [hdN])
  exact out2 2 3 (.sl 0 0 (decM l).length) (SV.i 0) (π := [2]) (hout := [some (.rows 67 2 (decM l).length (smpF (decM l)))]) Tryd.results19 rfl rfl (by rw [hMM]; rfl) rfl rfl rfl ⟨(by rw [hMM]; rfl), trivial⟩ (.inl ⟨hE, rfl, rfl⟩)
end Go.Proofs.YtpdojmebloekgaaDoor.Nice.Co
namespace Go.Proofs.YtpdojmebloekgaaDoor.Nice.Co
open Go Go.Conc
set_option linter.unusedVariables false
set_option linter.unusedSimpArgs false
theorem still_forIn {P : Program} {α β : Type} {f : α → β → Sem (ForInStep β)} (hf : ∀ a b, Still P (f a b)) : ∀ (l : List α) (b : β), Still P (forIn l b f)
  | [], b => by rw [List.forIn_nil]; exact .pure _
  | a :: l, b => by
    rw [List.forIn_cons]
    refine .bind (hf a b) fun r => ?_
    cases r with
    | done b => exact .pure _
    | yield b => exact still_forIn hf l b
theorem still_forInA {P : Program} {α β : Type} {f : α → β → Sem (ForInStep β)} (hf : ∀ a b, Still P (f a b)) (l : Array α) (b : β) : Still P (forIn l b f) := by
  rw [← Array.forIn_toList]
  exact still_forIn hf l.toList b
theorem at_bytes {P : Program} {R Wr : Nat → Prop} {w : World} {ba : Option Addr} {n c : Nat} (h : n = 0 ∨ ∃ ad, ba = some ad ∧ CellsAt w ad.block ∧ R ad.block) : At P R Wr (Conv.bytesToString (.slice ba n c)) w := by
  cases ba with
  | none => unfold Conv.bytesToString; exact (Still.pure _).at
  | some a =>
    unfold Conv.bytesToString loadCells
    refine .bind ?_ fun cs w' hw => ?_
    · rcases h with rfl | ⟨ad, e, h1, h2⟩
      · exact (Still.pure _).at
      · cases e; exact at_loadCellsFrom h1 h2 _ _ _
    · refine Still.at ?_
      refine .bind (still_forInA (fun c r => ?_) cs _) fun _ => .pure _
      split
      · exact .pure _
      · first | exact Still.halt _ | exact .bind (Still.halt _) fun _ => .pure _
theorem strOK {C : Ctx} {o : Oper} {nm : Nat} {v : Operand → SV} {src dst e : TypeId} {y : Operand} {f : Nat → Nat → D} (L : List UInt8) (ho : o.op = .convert src dst y)
    (hs : C.P.underlying src = some (.slice e)) (he : C.P.underlying e = some (.int .u8)) (hds : C.P.underlying dst = some .string)
    (hy : v y = .d (.vec 1 L.length f)) (hf : ∀ (j : Nat) (hj : j < L.length), f j 0 = .val (.int .u8 (L[j].toNat : Int))) :
    Nice.OpOK C o nm v [] (fun x z => x = .d (.val (.string ⟨L.toArray⟩)) ∧ z = []) := by
  refine ok_pure fun M F ρ a hh w hv hH _ => ⟨.string ⟨L.toArray⟩, ?_, .d _ _ (.val _ rfl)⟩
  have e1 := hv y (by rw [ho]; simp [Op.operands]); rw [hy] at e1
  have : (convert src dst (a.eval y)).run C.P w = .ok (.string ⟨L.toArray⟩) w := by
    generalize a.eval y = q at e1
    cases e1 with
    | d _ _ hD =>
      generalize hLn : L.length = n at hD
      cases hD with
      | vec0 _ _ ad cap =>
        have : L = [] := List.length_eq_zero_iff.1 hLn
        subst this
        cases ad with
        | none => exact conv_none w src dst e _ _ hs he hds
        | some x => exact run_convert_bytes_back w src dst e x cap [] hs he hds (fun j hj => by simp at hj)
      | vec _ _ _ b oo cap cur T fz g hb hc hgg hr =>
        subst hLn
        refine run_convert_bytes_back w src dst e ⟨b, oo, none⟩ cap L hs he hds fun j hj => ?_
        have h1 := hgg j 0 hj (by omega)
        have h2 := hr j 0 hj (by omega)
        rw [hf j hj] at h2
        generalize hgq : g j 0 = gq at h1 h2
        cases h2
        have h3 := hH.imm b _ hb
        have ea : (⟨b, oo, none⟩ : Addr).add j = ⟨b, oo + j, none⟩ := by unfold Addr.add; split <;> simp_all
        rw [ea]
        unfold World.cell?
        simp only [h3]
        simpa using h1
  unfold execOp
  simp only [ho, Sem.run_bind, this, Result.andThen_ok, Sem.run_pure]
theorem strEv {C : Ctx} {o : Oper} {v : Operand → SV} {src dst e : TypeId} {y : Operand} {n : Nat} {f : Nat → Nat → D} (ho : o.op = .convert src dst y)
    (hs : C.P.underlying src = some (.slice e)) (he : C.P.underlying e = some (.int .u8)) (hds : C.P.underlying dst = some .string) (hy : v y = .d (.vec 1 n f)) : OpEv C o v [] := by
  intro M F ρ a h w hv hH _ ev hev
  have e1 := hv y (by rw [ho]; simp [Op.operands]); rw [hy] at e1
  have key : ∀ ba len cap, a.eval y = .slice ba len cap → (len = 0 ∨ ∃ ad, ba = some ad ∧ CellsAt w ad.block ∧ M ad.block ≠ none) → EvB M ρ h ev := by
    intro ba len cap hq hb
    have hat := at_bytes (P := C.P) (R := fun b => M b ≠ none) (Wr := fun _ => False) (w := w) (c := cap) hb
    have : ev ∈ (Conv.bytesToString (.slice ba len cap)).events C.P w #[] := by
      have h2 := hev
      unfold execOp at h2
      simp only [ho] at h2
      rw [hq] at h2
      simp only [Sem.events_bind] at h2
      revert h2
      cases hr : (convert src dst (.slice ba len cap)).run C.P w with
      | halt x w' => intro h2; simpa [convert, run_underlying hs, run_underlying hds, run_underlying he] using h2
      | ok x w' => intro h2; simpa [convert, run_underlying hs, run_underlying hds, run_underlying he] using h2
    rcases hat #[] ev this with h1 | ⟨ad, s, h1, h2⟩ | ⟨ad, s, h1, h2⟩ | h1
    · simp at h1
    · exact .inl ⟨ad, s, h1, .inl h2⟩
    · exact h2.elim
    · exact .inr (.inr h1)
  generalize hq : a.eval y = q at e1
  cases e1 with
  | d _ _ hD => cases hD with
    | vec0 _ _ ad cap => exact key _ _ _ hq (.inl rfl)
    | vec _ _ _ b oo cap cur T fz g hb hc hgg hr => exact key _ _ _ hq (.inr ⟨_, rfl, ⟨_, _, _, hH.imm b _ hb⟩, by rw [hb]; simp⟩)
/-- 'string(b)' of data. -/
theorem sStr {C : Ctx} {ops : List Oper} {i : Nat} {o : Oper} {l : List Oper} {t : Nat → SV} {h : Heap} {nx : Nat} {K : St → Prop} {src dst e : TypeId} {y : Operand} {len : Nat} {f : Nat → Nat → D} (L : List UInt8) (d nm i' : Nat) (hi : i + 1 = i') (hnm : nx + 8 * i = nm) (hg : o.guard = none) (hdst : o.dst = some d) (hd : Nat.blt d C.sz = true) (ho : o.op = .convert src dst y)
    (hs : C.P.underlying src = some (.slice e)) (he : C.P.underlying e = some (.int .u8)) (hds : C.P.underlying dst = some .string)
    (hy : (opv C t y).hd = some (.d (.vec 1 len f))) (hlen : len = L.length) (hf : ∀ (j : Nat) (hj : j < L.length), f j 0 = .val (.int .u8 (L[j].toNat : Int)))
    (k : wops C ops i' l ⟨upd t d (.d (.val (.string ⟨L.toArray⟩))), h, nx⟩ none K) : wops C ops i (o :: l) ⟨t, h, nx⟩ none K := by
  subst hi; subst hnm; subst hlen
  have hok : OpOK C o (nx + 8 * i) (opv C t) [] (fun x z => x = .d (.val (.string ⟨L.toArray⟩)) ∧ z = []) := .of (strOK L ho hs he hds (SV.hd_eq hy) hf) (.plain (by rw [ho]; rfl)) (strEv ho hs he hds (SV.hd_eq hy))
  refine st_ok (σ := ⟨t, h, nx⟩) hg (by unfold dstOK; rw [hdst]; exact hd) hok (fun p hp => by simp at hp) rfl ?_
  unfold St.app; rw [hdst]; exact k
end Go.Proofs.YtpdojmebloekgaaDoor.Nice.Co
namespace Go.Proofs.YtpdojmebloekgaaDoor.Nice.Co
open Go
set_option linter.unusedVariables false
set_option linter.unusedSimpArgs false
set_option maxRecDepth 100000
set_option maxHeartbeats 4000000
theorem shr128b {k : Int} {r : Nat} (h : k = r) (hr : r < 8) : (128 : Int).fdiv (2 ^ (min k.toNat 64)) = 2 ^ (7 - r) := by
  subst h
  have e : r = 0 ∨ r = 1 ∨ r = 2 ∨ r = 3 ∨ r = 4 ∨ r = 5 ∨ r = 6 ∨ r = 7 := by omega
  rcases e with rfl | rfl | rfl | rfl | rfl | rfl | rfl | rfl <;> decide
def wL : List Int := [0, 6, 12, 24, 59]
def lowL : List Int := [0, 1, 64, 4096, 16777216]
theorem wL_get {q : Nat} (h : q ≤ 4) : wL.getD q 0 = clB q := by
  match q, h with
  | 0, _ | 1, _ | 2, _ | 3, _ | 4, _ => rfl
theorem cls_low {q : Nat} (h : q ≤ 4) {x : Int} (h0 : 0 ≤ x) (h1 : x < 2 ^ clB q) : cls x = q ↔ ¬ (0 < clB q ∧ x < lowL.getD q 0) := by
  have e0 : (2 : Int) ^ 0 = 1 := by decide
  have e1 : (2 : Int) ^ 6 = 64 := by decide
  have e2 : (2 : Int) ^ 12 = 4096 := by decide
  have e3 : (2 : Int) ^ 24 = 16777216 := by decide
  have hc : clB 0 = 0 ∧ clB 1 = 6 ∧ clB 2 = 12 ∧ clB 3 = 24 ∧ clB 4 = 59 := ⟨rfl, rfl, rfl, rfl, rfl⟩
  obtain ⟨c0, c1, c2, c3, c4⟩ := hc
  have hl : lowL.getD 0 0 = 0 ∧ lowL.getD 1 0 = 1 ∧ lowL.getD 2 0 = 64 ∧ lowL.getD 3 0 = 4096 ∧ lowL.getD 4 0 = 16777216 := ⟨rfl, rfl, rfl, rfl, rfl⟩
  obtain ⟨l0, l1, l2, l3, l4⟩ := hl
  unfold cls
  rcases (show q = 0 ∨ q = 1 ∨ q = 2 ∨ q = 3 ∨ q = 4 by omega) with rfl | rfl | rfl | rfl | rfl
  · rw [c0, e0] at h1; rw [c0, l0, if_pos (by omega)]; omega
  · rw [c1, e1] at h1; rw [c1, l1]; repeat' split
    all_goals omega
  · rw [c2, e2] at h1; rw [c2, l2]; repeat' split
    all_goals omega
  · rw [c3, e3] at h1; rw [c3, l3]; repeat' split
    all_goals omega
  · rw [c4, l4]; repeat' split
    all_goals omega
theorem tdiv_unf {x : Int} (h0 : 0 ≤ x) (h1 : x < 576460752303423488) (h : x % 2 = 1) : IntKind.i64.wrap ((-(x + 1)).tdiv 2) = zUnf x := by
  unfold zUnf
  rw [if_pos h, Int.neg_tdiv, Int.tdiv_eq_ediv_of_nonneg (by omega)]
  exact wrap_in ⟨by omega, by omega⟩
def zgA (l : List Int) (n : Nat) : Nat := if (zgt l n).e = 0 then (zgt l n).at' else 0
theorem byte8 {l : List Int} (hl : Bytes l) : numB l 0 8 = l.getD 0 0 := by
  have := hl.b 0
  show 2 * (2 * (2 * (2 * (2 * (2 * (2 * (2 * 0 + l.getD 0 0 / 2 ^ 7 % 2) + l.getD 0 0 / 2 ^ 6 % 2) + l.getD 0 0 / 2 ^ 5 % 2) + l.getD 0 0 / 2 ^ 4 % 2) + l.getD 0 0 / 2 ^ 3 % 2) + l.getD 0 0 / 2 ^ 2 % 2) + l.getD 0 0 / 2 ^ 1 % 2) + l.getD 0 0 / 2 ^ 0 % 2 = l.getD 0 0
  rw [show (2 : Int) ^ 7 = 128 by decide, show (2 : Int) ^ 6 = 64 by decide, show (2 : Int) ^ 5 = 32 by decide, show (2 : Int) ^ 4 = 16 by decide, show (2 : Int) ^ 3 = 8 by decide, show (2 : Int) ^ 2 = 4 by decide, show (2 : Int) ^ 1 = 2 by decide, show (2 : Int) ^ 0 = 1 by decide]
  omega
def bstr (l : List Int) : List UInt8 := l.map fun v => UInt8.ofNat v.toNat
theorem bstr_len (l : List Int) : l.length = (bstr l).length := by simp [bstr]
theorem bstr_get {l : List Int} (hl : Bytes l) (j : Nat) (hj : j < (bstr l).length) : u8F l j 0 = .val (.int .u8 ((bstr l)[j].toNat : Int)) := by
  have hj' : j < l.length := by rw [bstr_len]; exact hj
  have := hl.b j
  have e : l.getD j 0 = l[j] := by simp [List.getD, hj']
  unfold u8F
  rw [e] at this ⊢
  have : ((bstr l)[j].toNat : Int) = l[j] := by
    simp only [bstr, List.getElem_map, UInt8.toNat_ofNat']
    omega
  rw [this]
theorem bstr_inj {x y : List Int} (hx : Bytes x) (hy : Bytes y) (h : bstr x = bstr y) : x = y := by
  have hl : x.length = y.length := by rw [bstr_len x, bstr_len y, h]
  refine List.ext_getElem hl fun i h1 h2 => ?_
  have e1 := bstr_get hx i (by rw [← bstr_len]; exact h1)
  have e2 := bstr_get hy i (by rw [← bstr_len]; exact h2)
  have a1 : x.getD i 0 = x[i] := by simp [List.getD, h1]
  have a2 : y.getD i 0 = y[i] := by simp [List.getD, h2]
  unfold u8F at e1 e2
  simp only [D.val.injEq, Value.int.injEq, true_and] at e1 e2
  rw [a1] at e1; rw [a2] at e2
  rw [e1, e2]; simp only [h]
theorem sampleOf_1 (M : List Smp) (x y : Int) : sampleOf (lstN M 1) x y = ⟨x + (M.getD 0 default).t, y + (M.getD 0 default).v⟩ := by
  unfold sampleOf
  rw [if_neg (by rw [lstN_n]; decide), (lstN_t M (by decide)).1, (lstN_t M (by decide)).2, lstN_st, if_neg (by decide)]
  simp only [Nat.sub_self]
  congr 1 <;> omega
theorem sampleOf_2 (M : List Smp) (x y : Int) {k : Nat} (h : 2 ≤ k) : sampleOf (lstN M k) x y = ⟨x + (M.getD (k - 1) default).t + ((M.getD (k - 1) default).t - (M.getD (k - 2) default).t), y + (M.getD (k - 1) default).v⟩ := by
  unfold sampleOf
  rw [if_neg (by rw [lstN_n]; omega), (lstN_t M (by omega)).1, (lstN_t M (by omega)).2, lstN_st, if_pos h]
  congr 1 <;> omega
theorem sfault_snoc {M : List Smp} {s : Smp} (h : faultTo M M.length = 0) (hl : M.length < 120) : sfault (M ++ [s]) = lfault (lstN M M.length) s := by
  unfold sfault
  rw [if_neg (by simp; omega), show (M ++ [s]).length = M.length + 1 by simp, faultTo_snoc M s h]
theorem smpIn_good {M : List Smp} (h : faultTo M M.length = 0) (hl : M.length ≤ 120) : SmpIn M := by
  have key : ∀ k, inRange (M.getD k default).t ∧ inRange (M.getD k default).v := by
    intro k
    by_cases hk : k < M.length
    · obtain ⟨⟨h1, h2⟩, ⟨h3, h4⟩, _⟩ := smp_at h hk
      exact ⟨⟨by omega, by omega⟩, ⟨by omega, by omega⟩⟩
    · have e : M.getD k default = default := by rw [List.getD_eq_getElem?_getD, List.getElem?_eq_none (by omega)]; rfl
      rw [e]; exact ⟨⟨by decide, by decide⟩, ⟨by decide, by decide⟩⟩
  exact ⟨by omega, fun k => (key k).1, fun k => (key k).2⟩
theorem sfault_good {M : List Smp} (h : faultTo M M.length = 0) (hl : M.length ≤ 120) : sfault M = 0 := by
  unfold sfault; rw [if_neg (by omega), h]
theorem bitAt_any (l : List Int) (hl : Bytes l) (i : Nat) (hi : i < 8 * l.length) : Spec Tryd.prog GC 80 [u8V l, SV.i i] [] (fun r ho => r = SV.i (bitB l i) ∧ ho = []) := by
  obtain ⟨hl1, hl2⟩ := hl
  have hb := hl2 (i / 8)
  have hd := byte_div hb.1 hb.2 (7 - i % 8)
  have hp : (0 : Int) < (2 ^ (7 - i % 8)) := Int.pow_pos (by decide)
  refine start 16 0 Tryd.func80 rfl rfl rfl rfl ?_
  refine r1 ?_
  refine s1 4 0 1 rfl rfl rfl rfl rfl rfl trivial ?_
  refine e1 8 rfl ?_
  refine keep [0, 1] rfl ?_
  refine rd1 rfl ?_
  refine d1 5 8 1 rfl rfl rfl rfl rfl rfl trivial ?_
  refine d1 6 16 2 rfl rfl rfl rfl rfl rfl trivial ?_
  refine dD 7 24 3 rfl rfl rfl rfl rfl rfl rfl rfl rfl (by omega) ?_
  refine d1 8 32 4 rfl rfl rfl rfl rfl rfl (by constructor <;> omega) ?_
  refine d1 9 40 5 rfl rfl rfl rfl rfl rfl (by omega) ?_
  refine val 9 (.d (.val (.int .u8 (l.getD (i / 8) 0)))) rfl (by first | rfl | (rw [show ((i : Int) / 8).toNat = i / 8 by omega])) ?_
  refine d1 10 48 6 rfl rfl rfl rfl rfl rfl trivial ?_
  refine val 10 (SV.i (l.getD (i / 8) 0)) rfl (congrArg (fun x => SV.d (D.val (Value.int .i64 x))) (wrap_in ⟨by omega, by omega⟩)) ?_
  refine d1 11 56 7 rfl rfl rfl rfl rfl rfl trivial ?_
  refine dD 12 64 8 rfl rfl rfl rfl rfl rfl rfl rfl rfl (by omega) ?_
  refine d1 13 72 9 rfl rfl rfl rfl rfl rfl (by omega) ?_
  refine val 13 (SV.i (2 ^ (7 - i % 8))) rfl (congrArg (fun x => SV.d (D.val (Value.int .i64 x))) (shr128b (by omega) (by omega))) ?_
  refine dD 14 80 10 rfl rfl rfl rfl rfl rfl rfl rfl rfl ⟨by omega, by omega, hp⟩ ?_
  refine dD 15 88 11 rfl rfl rfl rfl rfl rfl rfl rfl rfl ⟨by omega, by omega, by omega⟩ ?_
  refine d1 4 96 12 rfl rfl rfl rfl rfl rfl trivial ?_
  refine de1 104 rfl (by kernel_rfl) ?_
  refine keep [4] rfl ?_
  refine W_ret ?_
  exact out1 4 (SV.i (bitB l i)) (π := []) (hout := []) Tryd.results80 rfl rfl rfl rfl trivial ⟨rfl, rfl⟩
theorem refUnf_any (x : Int) (h0 : 0 ≤ x) (h1 : x < 576460752303423488) : Spec Tryd.prog GC 81 [SV.i x] [] (fun r ho => r = SV.tup [SV.i (zUnf x), SV.i 0] ∧ ho = []) := by
  refine start 19 0 Tryd.func81 rfl rfl rfl rfl ?_
  refine r1 ?_
  refine s1 2 0 1 rfl rfl rfl rfl rfl rfl trivial ?_
  refine s1 3 8 2 rfl rfl rfl rfl rfl rfl trivial ?_
  refine e1 16 rfl ?_
  refine keep [0] rfl ?_
  refine W_seq ?_
  refine r1 ?_
  refine s1 4 16 1 rfl rfl rfl rfl rfl rfl trivial ?_
  refine s1 5 24 2 rfl rfl rfl rfl rfl rfl (by first | trivial | omega) ?_
  refine s1 6 32 3 rfl rfl rfl rfl rfl rfl trivial ?_
  refine ask 6 rfl (fun hg1_6 => ?_) (fun hg1_6 => ?_)
  · skip
    try simp only [cs, ne_eq] at hg1_6
    refine g0 2 false 6 7 4 rfl rfl rfl rfl rfl rfl ?_
    refine g0 2 false 6 8 5 rfl rfl rfl rfl rfl rfl ?_
    refine s1 9 56 6 rfl rfl rfl rfl rfl rfl trivial ?_
    refine e1 64 rfl ?_
    refine keep [0, 9] rfl ?_
    refine q1 rfl (fun hc1 => ?_) (fun hc1 => ?_)
    · skip
      exfalso; simp at hc1; omega
    exact absurd hc1 (by decide)
  try simp only [cs, ne_eq] at hg1_6
  refine g1 2 false 6 7 4 rfl rfl rfl rfl rfl ?_
  refine s1 7 40 4 rfl rfl rfl rfl rfl rfl trivial ?_
  refine g1 2 false 6 8 5 rfl rfl rfl rfl rfl ?_
  refine s1 8 48 5 rfl rfl rfl rfl rfl rfl (by first | trivial | omega) ?_
  refine s1 9 56 6 rfl rfl rfl rfl rfl rfl trivial ?_
  refine e1 64 rfl ?_
  refine keep [0, 9] rfl ?_
  refine q1 rfl (fun hc1 => ?_) (fun hc1 => ?_)
  · skip
    exfalso; simp at hc1; omega
  try simp only [cs, ne_eq] at hc1
  refine W_skip ?_
  refine tn ?_
  refine W_seq ?_
  refine r1 ?_
  refine s1 10 64 1 rfl rfl rfl rfl rfl rfl trivial ?_
  refine sD 11 72 2 rfl rfl rfl rfl rfl rfl rfl rfl rfl (by omega) ?_
  refine s1 12 80 3 rfl rfl rfl rfl rfl rfl (by first | trivial | omega) ?_
  refine e1 88 rfl ?_
  refine keep [0, 12] rfl ?_
  refine q1 rfl (fun hc3 => ?_) (fun hc3 => ?_)
  · skip
    try simp only [cs, ne_eq] at hc3
    refine r1 ?_
    refine s1 13 88 1 rfl rfl rfl rfl rfl rfl trivial ?_
    refine sA 14 96 2 rfl rfl rfl rfl rfl rfl rfl rfl rfl (by unfold inRange; omega) ?_
    refine s1 15 104 3 rfl rfl rfl rfl rfl rfl trivial ?_
    refine val 15 (SV.i (-(x + 1))) rfl (congrArg (fun x => SV.d (D.val (Value.int .i64 x))) (show IntKind.i64.wrap (0 - (x + 1)) = _ from by rw [Int.zero_sub]; exact wrap_in ⟨by omega, by omega⟩)) ?_
    refine s1as (SV.i (zUnf x)) 16 112 4 rfl rfl rfl rfl rfl rfl (by decide) (congrArg (fun x => SV.d (D.val (Value.int .i64 x))) (tdiv_unf h0 h1 hc3)) ?_
    refine s1 2 120 5 rfl rfl rfl rfl rfl rfl trivial ?_
    refine s1 3 128 6 rfl rfl rfl rfl rfl rfl trivial ?_
    refine e1 136 rfl ?_
    refine keep [2, 3] rfl ?_
    refine W_ret ?_
    refine tr ?_
    exact out2 2 3 (SV.i (zUnf x)) (SV.i 0) (π := []) (hout := []) Tryd.results81 rfl rfl rfl rfl rfl rfl trivial ⟨rfl, rfl⟩
  try simp only [cs, ne_eq] at hc3
  refine W_skip ?_
  refine tn ?_
  refine r1 ?_
  refine s1 17 88 1 rfl rfl rfl rfl rfl rfl trivial ?_
  refine sD 18 96 2 rfl rfl rfl rfl rfl rfl rfl rfl rfl (by omega) ?_
  refine s1 2 104 3 rfl rfl rfl rfl rfl rfl trivial ?_
  refine s1 3 112 4 rfl rfl rfl rfl rfl rfl trivial ?_
  refine e1 120 rfl ?_
  refine keep [2, 3] rfl ?_
  refine W_ret ?_
  exact out2 2 3 (SV.i (zUnf x)) (SV.i 0) (π := []) (hout := []) Tryd.results81 rfl rfl (by show SV.i (x / 2) = SV.i (zUnf x); unfold zUnf; rw [if_neg hc3]) rfl rfl rfl trivial ⟨rfl, rfl⟩
theorem zigAt_any (l : List Int) (hl : Bytes l) (n : Nat) (hn : n ≤ 8 * l.length) : Spec Tryd.prog GC 50 [u8V l, SV.i n] [] (fun r ho => r = SV.tup [SV.i (zgt l n).x, SV.i (zgA l n : Nat), SV.i (zgt l n).e] ∧ ho = []) := by
  have hlb := hl
  obtain ⟨hl1, hl2⟩ := hl
  refine start 73 0 Tryd.func50 rfl rfl rfl rfl ?_
  refine r1 ?_
  refine s1 4 0 1 rfl rfl rfl rfl rfl rfl trivial ?_
  refine s1 5 8 2 rfl rfl rfl rfl rfl rfl trivial ?_
  refine s1 6 16 3 rfl rfl rfl rfl rfl rfl trivial ?_
  refine e1 24 rfl ?_
  refine keep [0, 1] rfl ?_
  refine r1 ?_
  refine s1 7 24 1 rfl rfl rfl rfl rfl rfl trivial ?_
  refine e1 32 rfl ?_
  refine keep [0, 1, 7] rfl ?_
  refine W_seq ?_
  refine W_block ?_
  refine loop (α := Nat) 0 (fun k => [(0, u8V l), (1, SV.i (n + (k) : Nat)), (7, SV.i (k))]) (fun k => []) (fun k => (k) ≤ 4 ∧ n + (k) ≤ 8 * l.length ∧ zpre l 4 n 0 = zpre l (4 - (k)) (n + (k)) (k)) (fun k => 4 - (k)) (((0) : Nat)) [] (fun _ => rfl) (show (0) ≤ 4 ∧ n + (0) ≤ 8 * l.length ∧ zpre l 4 n 0 = zpre l (4 - (0)) (n + (0)) (0) from ⟨Nat.zero_le _, hn, rfl⟩) rfl ⟨rfl, rfl, rfl, trivial⟩ trivial (fun k hx => ?_)
  show W _ _ _ ⟨tOf [(0, u8V l), (1, SV.i (n + k : Nat)), (7, SV.i k)], hOf [], 0⟩
  have hx : k ≤ 4 ∧ n + k ≤ 8 * l.length ∧ zpre l 4 n 0 = zpre l (4 - k) (n + k) k := hx
  obtain ⟨hk, hkn, hz⟩ := hx
  refine W_seq ?_
  refine r1 ?_
  refine s1 14 0 1 rfl rfl rfl rfl rfl rfl trivial ?_
  refine s1 15 8 2 rfl rfl rfl rfl rfl rfl (by first | trivial | omega) ?_
  refine e1 16 rfl ?_
  refine keep [0, 1, 7, 15] rfl ?_
  refine q1 rfl (fun hc2 => ?_) (fun hc2 => ?_)
  · skip
    try simp only [cs, ne_eq] at hc2
    refine W_skip ?_
    refine tn ?_
    refine W_block ?_
    refine W_seq ?_
    refine r1 ?_
    refine s1 16 16 1 rfl rfl rfl rfl rfl rfl trivial ?_
    refine s1 17 24 2 rfl rfl rfl rfl rfl rfl trivial ?_
    refine s1 18 32 3 rfl rfl rfl rfl rfl rfl (by first | trivial | omega) ?_
    refine sA 19 40 4 rfl rfl rfl rfl rfl rfl rfl rfl rfl (by unfold inRange; omega) ?_
    refine s1 20 48 5 rfl rfl rfl rfl rfl rfl (by constructor <;> omega) ?_
    refine e1 56 rfl ?_
    refine keep [0, 1, 7, 20] rfl ?_
    refine q1 rfl (fun hc3 => ?_) (fun hc3 => ?_)
    · skip
      try simp only [cs, ne_eq] at hc3
      refine r1 ?_
      refine s1 4 56 1 rfl rfl rfl rfl rfl rfl trivial ?_
      refine s1 5 64 2 rfl rfl rfl rfl rfl rfl trivial ?_
      refine s1 6 72 3 rfl rfl rfl rfl rfl rfl trivial ?_
      refine e1 80 rfl ?_
      refine keep [4, 5, 6] rfl ?_
      refine W_ret ?_
      refine tr ?_
      refine br ?_
      refine tr ?_
      refine br ?_
      refine tr ?_
      have hzz := zgt_short (hz.trans (zpre_end l k (n + k) (by omega) (by omega)))
      exact out3 4 5 6 (SV.i (zgt l n).x) (SV.i (zgA l n : Nat)) (SV.i (zgt l n).e) (π := []) (hout := []) Tryd.results50 rfl rfl rfl (by rw [hzz]; rfl) (by unfold zgA; rw [hzz]; rfl) (by rw [hzz]; rfl) rfl rfl trivial ⟨rfl, rfl⟩
    try simp only [cs, ne_eq] at hc3
    refine W_skip ?_
    refine tn ?_
    refine r1 ?_
    refine s1 21 56 1 rfl rfl rfl rfl rfl rfl trivial ?_
    refine s1 22 64 2 rfl rfl rfl rfl rfl rfl trivial ?_
    refine c1 (bitAt_any l hlb (n + k) (by omega)) [] [] 23 72 3 rfl rfl rfl rfl rfl rfl rfl rfl Tryd.func80 rfl rfl rfl rfl trivial rfl rfl ?_
    refine s1 8 80 4 rfl rfl rfl rfl rfl rfl trivial ?_
    refine e1 88 rfl ?_
    refine keep [0, 1, 7, 8] rfl ?_
    refine r1 ?_
    refine s1 24 88 1 rfl rfl rfl rfl rfl rfl trivial ?_
    refine sA 25 96 2 rfl rfl rfl rfl rfl rfl rfl rfl rfl (by unfold inRange; omega) ?_
    refine s1 1 104 3 rfl rfl rfl rfl rfl rfl trivial ?_
    refine e1 112 rfl ?_
    refine keep [0, 1, 7, 8] rfl ?_
    refine W_seq ?_
    refine r1 ?_
    refine s1 26 112 1 rfl rfl rfl rfl rfl rfl trivial ?_
    refine s1 27 120 2 rfl rfl rfl rfl rfl rfl (by first | trivial | omega) ?_
    refine e1 128 rfl ?_
    refine keep [0, 1, 7, 27] rfl ?_
    refine q1 rfl (fun hc7 => ?_) (fun hc7 => ?_)
    · skip
      try simp only [cs, ne_eq] at hc7
      refine W_exit ?_
      refine tx ?_
      refine bo rfl ?_
      refine tx ?_
      refine bx ?_
      refine tn ?_
      obtain ⟨q, m, hq, hz, hm, hek, hem⟩ : ∃ q m : Nat, q ≤ 4 ∧ zpre l 4 n 0 = (true, q, m) ∧ m ≤ 8 * l.length ∧ (k : Int) = q ∧ ((n + k : Nat) : Int) + 1 = m := ⟨k, n + k + 1, by omega, hz.trans (zpre_zero l k (n + k) (by omega) (by omega) hc7), by omega, rfl, by omega⟩
      refine cval 7 (SV.i q) rfl (by rw [hek]) ?_
      refine cval 1 (SV.i m) rfl (by rw [hem]) ?_
      have h59 := clB_59 q
      refine r1 ?_
      refine sLit 1 (intF wL) 30 128 1 rfl rfl rfl rfl rfl rfl rfl rfl rfl (by intro i c hi hc; obtain rfl : c = 0 := (by omega); rcases (show i = 0 ∨ i = 1 ∨ i = 2 ∨ i = 3 ∨ i = 4 by omega) with rfl | rfl | rfl | rfl | rfl <;> rfl) ?_
      refine s1 31 136 2 rfl rfl rfl rfl rfl rfl trivial ?_
      refine s1 32 144 3 rfl rfl rfl rfl rfl rfl (by constructor <;> omega) ?_
      refine s1 33 152 4 rfl rfl rfl rfl rfl rfl (by omega) ?_
      refine val 33 (SV.i (clB q)) rfl (congrArg (fun x => SV.d (D.val (Value.int .i64 x))) (by rw [Int.toNat_natCast]; exact wL_get hq)) ?_
      refine s1 9 160 5 rfl rfl rfl rfl rfl rfl trivial ?_
      refine e1 168 rfl ?_
      refine keep [0, 1, 7, 9] rfl ?_
      refine W_seq ?_
      refine r1 ?_
      refine s1 34 168 1 rfl rfl rfl rfl rfl rfl trivial ?_
      refine s1 35 176 2 rfl rfl rfl rfl rfl rfl trivial ?_
      refine sA 36 184 3 rfl rfl rfl rfl rfl rfl rfl rfl rfl (by unfold inRange; omega) ?_
      refine s1 37 192 4 rfl rfl rfl rfl rfl rfl trivial ?_
      refine s1 38 200 5 rfl rfl rfl rfl rfl rfl (by first | trivial | omega) ?_
      refine sA 39 208 6 rfl rfl rfl rfl rfl rfl rfl rfl rfl (by unfold inRange; omega) ?_
      refine s1 40 216 7 rfl rfl rfl rfl rfl rfl (by first | trivial | omega) ?_
      refine e1 224 rfl ?_
      refine keep [0, 1, 7, 9, 40] rfl ?_
      refine q1 rfl (fun hc10 => ?_) (fun hc10 => ?_)
      · skip
        try simp only [cs, ne_eq] at hc10
        refine r1 ?_
        refine s1 4 224 1 rfl rfl rfl rfl rfl rfl trivial ?_
        refine s1 5 232 2 rfl rfl rfl rfl rfl rfl trivial ?_
        refine s1 6 240 3 rfl rfl rfl rfl rfl rfl trivial ?_
        refine e1 248 rfl ?_
        refine keep [4, 5, 6] rfl ?_
        refine W_ret ?_
        refine tr ?_
        have hzz := zgt_short2 hz (by omega)
        exact out3 4 5 6 (SV.i (zgt l n).x) (SV.i (zgA l n : Nat)) (SV.i (zgt l n).e) (π := []) (hout := []) Tryd.results50 rfl rfl rfl (by rw [hzz]; rfl) (by unfold zgA; rw [hzz]; rfl) (by rw [hzz]; rfl) rfl rfl trivial ⟨rfl, rfl⟩
      try simp only [cs, ne_eq] at hc10
      refine W_skip ?_
      refine tn ?_
      refine r1 ?_
      refine s1 10 224 1 rfl rfl rfl rfl rfl rfl trivial ?_
      refine e1 232 rfl ?_
      refine keep [0, 1, 7, 9, 10] rfl ?_
      refine W_seq ?_
      refine r1 ?_
      refine s1 11 232 1 rfl rfl rfl rfl rfl rfl trivial ?_
      refine e1 240 rfl ?_
      refine keep [0, 1, 7, 9, 10, 11] rfl ?_
      refine W_block ?_
      refine loop (α := Nat) 0 (fun j => [(0, u8V l), (1, SV.i m), (7, SV.i q), (9, SV.i (clB q)), (10, SV.i (numB l m (j))), (11, SV.i (j))]) (fun j => []) (fun j => (j) ≤ clB q) (fun j => clB q - (j)) (((0) : Nat)) [] (fun _ => rfl) (show (0) ≤ clB q from (Nat.zero_le _)) rfl ⟨rfl, rfl, rfl, rfl, rfl, rfl, trivial⟩ trivial (fun j hx => ?_)
      show W _ _ _ ⟨tOf [(0, u8V l), (1, SV.i m), (7, SV.i q), (9, SV.i (clB q)), (10, SV.i (numB l m j)), (11, SV.i j)], hOf [], 0⟩
      have hx : j ≤ clB q := hx
      refine W_seq ?_
      refine r1 ?_
      refine s1 41 0 1 rfl rfl rfl rfl rfl rfl trivial ?_
      refine s1 42 8 2 rfl rfl rfl rfl rfl rfl trivial ?_
      refine s1 43 16 3 rfl rfl rfl rfl rfl rfl (by first | trivial | omega) ?_
      refine e1 24 rfl ?_
      refine keep [0, 1, 7, 9, 10, 11, 43] rfl ?_
      refine q1 rfl (fun hc14 => ?_) (fun hc14 => ?_)
      · skip
        try simp only [cs, ne_eq] at hc14
        have hnum := num59 l m (show j + 1 ≤ 59 by omega)
        have hnum0 := num59 l m (show j ≤ 59 by omega)
        have hbb := bitB_bd l (m + j)
        have hrec : numB l m (j + 1) = 2 * numB l m j + bitB l (m + j) := rfl
        refine W_skip ?_
        refine tn ?_
        refine W_seq ?_
        refine W_block ?_
        refine r0 ?_
        refine s1 46 24 1 rfl rfl rfl rfl rfl rfl trivial ?_
        refine sA 47 32 2 rfl rfl rfl rfl rfl rfl rfl rfl rfl (by unfold inRange; omega) ?_
        refine s1 48 40 3 rfl rfl rfl rfl rfl rfl trivial ?_
        refine s1 49 48 4 rfl rfl rfl rfl rfl rfl trivial ?_
        refine s1 50 56 5 rfl rfl rfl rfl rfl rfl trivial ?_
        refine sA 51 64 6 rfl rfl rfl rfl rfl rfl rfl rfl rfl (by unfold inRange; omega) ?_
        refine c1 (bitAt_any l hlb (m + j) (by omega)) [] [] 52 72 7 rfl rfl rfl rfl rfl rfl rfl rfl Tryd.func80 rfl rfl rfl rfl trivial rfl rfl ?_
        refine sA 53 80 8 rfl rfl rfl rfl rfl rfl rfl rfl rfl (by unfold inRange; omega) ?_
        refine s1 10 88 9 rfl rfl rfl rfl rfl rfl trivial ?_
        refine e1 96 rfl ?_
        refine bn ?_
        refine tn ?_
        refine r0 ?_
        refine s1 44 96 1 rfl rfl rfl rfl rfl rfl trivial ?_
        refine sA 45 104 2 rfl rfl rfl rfl rfl rfl rfl rfl rfl (by unfold inRange; omega) ?_
        refine s1 11 112 3 rfl rfl rfl rfl rfl rfl trivial ?_
        refine e1 120 rfl ?_
        refine tn ?_
        exact again ((j + 1 : Nat)) [] (show (j + 1) ≤ clB q from (by omega)) (show clB q - (j + 1) < clB q - j from (by omega)) rfl ⟨rfl, rfl, rfl, rfl, rfl, rfl, trivial⟩ trivial
      try simp only [cs, ne_eq] at hc14
      refine W_exit ?_
      refine tx ?_
      refine tx ?_
      refine bx ?_
      refine tn ?_
      refine W_seq ?_
      obtain rfl : j = clB q := (by omega)
      have hX := num59 l m h59
      have hX2 := (numB_bd l m (clB q)).2
      refine r1 ?_
      refine s1 54 24 1 rfl rfl rfl rfl rfl rfl trivial ?_
      refine s1 55 32 2 rfl rfl rfl rfl rfl rfl (by first | trivial | omega) ?_
      refine s1 56 40 3 rfl rfl rfl rfl rfl rfl trivial ?_
      refine ask 56 rfl (fun hg17_56 => ?_) (fun hg17_56 => ?_)
      · skip
        try simp only [cs, ne_eq] at hg17_56
        refine g1 2 true 56 57 4 rfl rfl rfl rfl rfl ?_
        refine s1 57 48 4 rfl rfl rfl rfl rfl rfl trivial ?_
        refine g1 2 true 56 58 5 rfl rfl rfl rfl rfl ?_
        refine sLit 1 (intF lowL) 58 56 5 rfl rfl rfl rfl rfl rfl rfl rfl rfl (by intro i c hi hc; obtain rfl : c = 0 := (by omega); rcases (show i = 0 ∨ i = 1 ∨ i = 2 ∨ i = 3 ∨ i = 4 by omega) with rfl | rfl | rfl | rfl | rfl <;> rfl) ?_
        refine g1 2 true 56 59 6 rfl rfl rfl rfl rfl ?_
        refine s1 59 64 6 rfl rfl rfl rfl rfl rfl trivial ?_
        refine g1 2 true 56 60 7 rfl rfl rfl rfl rfl ?_
        refine s1 60 72 7 rfl rfl rfl rfl rfl rfl (by constructor <;> omega) ?_
        refine g1 2 true 56 61 8 rfl rfl rfl rfl rfl ?_
        refine s1 61 80 8 rfl rfl rfl rfl rfl rfl (by omega) ?_
        refine val 61 (SV.i (lowL.getD q 0)) rfl (congrArg (fun x => SV.d (D.val (Value.int .i64 x))) (by rw [Int.toNat_natCast])) ?_
        refine g1 2 true 56 62 9 rfl rfl rfl rfl rfl ?_
        refine s1 62 88 9 rfl rfl rfl rfl rfl rfl (by first | trivial | omega) ?_
        refine s1 63 96 10 rfl rfl rfl rfl rfl rfl trivial ?_
        refine e1 104 rfl ?_
        refine keep [1, 9, 10, 63] rfl ?_
        refine q1 rfl (fun hc17 => ?_) (fun hc17 => ?_)
        · skip
          try simp only [cs, ne_eq] at hc17
          refine r1 ?_
          refine s1 4 104 1 rfl rfl rfl rfl rfl rfl trivial ?_
          refine s1 5 112 2 rfl rfl rfl rfl rfl rfl trivial ?_
          refine s1 6 120 3 rfl rfl rfl rfl rfl rfl trivial ?_
          refine e1 128 rfl ?_
          refine keep [4, 5, 6] rfl ?_
          refine W_ret ?_
          refine tr ?_
          have hzz := zgt_form hz (by omega) (fun e => ((cls_low hq hX.1 hX2).1 e) ⟨by omega, by assumption⟩)
          exact out3 4 5 6 (SV.i (zgt l n).x) (SV.i (zgA l n : Nat)) (SV.i (zgt l n).e) (π := []) (hout := []) Tryd.results50 rfl rfl rfl (by rw [hzz]; rfl) (by unfold zgA; rw [hzz]; rfl) (by rw [hzz]; rfl) rfl rfl trivial ⟨rfl, rfl⟩
        try simp only [cs, ne_eq] at hc17
        refine W_skip ?_
        refine tn ?_
        have hcl : cls (numB l m (clB q)) = q := (cls_low hq hX.1 hX2).2 (by first | omega | (intro h; have := h.2; omega))
        refine r1 ?_
        refine s1 65 104 1 rfl rfl rfl rfl rfl rfl trivial ?_
        refine c1 (refUnf_any (numB l m (clB q)) hX.1 hX.2) [] [] 66 112 2 rfl rfl rfl rfl rfl rfl rfl rfl Tryd.func81 rfl rfl rfl rfl trivial rfl rfl ?_
        refine s1 64 120 3 rfl rfl rfl rfl rfl rfl trivial ?_
        refine s1 67 128 4 rfl rfl rfl rfl rfl rfl trivial ?_
        refine s1 68 136 5 rfl rfl rfl rfl rfl rfl trivial ?_
        refine s1 12 144 6 rfl rfl rfl rfl rfl rfl trivial ?_
        refine s1 13 152 7 rfl rfl rfl rfl rfl rfl trivial ?_
        refine e1 160 rfl ?_
        refine keep [1, 9, 12] rfl ?_
        refine r1 ?_
        refine s1 69 160 1 rfl rfl rfl rfl rfl rfl trivial ?_
        refine s1 70 168 2 rfl rfl rfl rfl rfl rfl trivial ?_
        refine s1 71 176 3 rfl rfl rfl rfl rfl rfl trivial ?_
        refine sA 72 184 4 rfl rfl rfl rfl rfl rfl rfl rfl rfl (by unfold inRange; omega) ?_
        refine s1 4 192 5 rfl rfl rfl rfl rfl rfl trivial ?_
        refine s1 5 200 6 rfl rfl rfl rfl rfl rfl trivial ?_
        refine s1 6 208 7 rfl rfl rfl rfl rfl rfl trivial ?_
        refine e1 216 rfl ?_
        refine keep [4, 5, 6] rfl ?_
        refine W_ret ?_
        have hzz := zgt_ok hz (by omega) hcl
        exact out3 4 5 6 (SV.i (zgt l n).x) (SV.i (zgA l n : Nat)) (SV.i (zgt l n).e) (π := []) (hout := []) Tryd.results50 rfl rfl rfl (by rw [hzz]; rfl) (by unfold zgA; rw [hzz]; rfl) (by rw [hzz]; rfl) rfl rfl trivial ⟨rfl, rfl⟩
      try simp only [cs, ne_eq] at hg17_56
      refine g0 2 true 56 57 4 rfl rfl rfl rfl rfl rfl ?_
      refine g0 2 true 56 58 5 rfl rfl rfl rfl rfl rfl ?_
      refine g0 2 true 56 59 6 rfl rfl rfl rfl rfl rfl ?_
      refine g0 2 true 56 60 7 rfl rfl rfl rfl rfl rfl ?_
      refine g0 2 true 56 61 8 rfl rfl rfl rfl rfl rfl ?_
      refine g0 2 true 56 62 9 rfl rfl rfl rfl rfl rfl ?_
      refine s1 63 96 10 rfl rfl rfl rfl rfl rfl trivial ?_
      refine e1 104 rfl ?_
      refine keep [1, 9, 10, 63] rfl ?_
      refine q1 rfl (fun hc17 => ?_) (fun hc17 => ?_)
      · skip
        exact absurd hc17 (by decide)
      try simp only [cs, ne_eq] at hc17
      refine W_skip ?_
      refine tn ?_
      have hcl : cls (numB l m (clB q)) = q := (cls_low hq hX.1 hX2).2 (by first | omega | (intro h; have := h.2; omega))
      refine r1 ?_
      refine s1 65 104 1 rfl rfl rfl rfl rfl rfl trivial ?_
      refine c1 (refUnf_any (numB l m (clB q)) hX.1 hX.2) [] [] 66 112 2 rfl rfl rfl rfl rfl rfl rfl rfl Tryd.func81 rfl rfl rfl rfl trivial rfl rfl ?_
      refine s1 64 120 3 rfl rfl rfl rfl rfl rfl trivial ?_
      refine s1 67 128 4 rfl rfl rfl rfl rfl rfl trivial ?_
      refine s1 68 136 5 rfl rfl rfl rfl rfl rfl trivial ?_
      refine s1 12 144 6 rfl rfl rfl rfl rfl rfl trivial ?_
      refine s1 13 152 7 rfl rfl rfl rfl rfl rfl trivial ?_
      refine e1 160 rfl ?_
      refine keep [1, 9, 12] rfl ?_
      refine r1 ?_
      refine s1 69 160 1 rfl rfl rfl rfl rfl rfl trivial ?_
      refine s1 70 168 2 rfl rfl rfl rfl rfl rfl trivial ?_
      refine s1 71 176 3 rfl rfl rfl rfl rfl rfl trivial ?_
      refine sA 72 184 4 rfl rfl rfl rfl rfl rfl rfl rfl rfl (by unfold inRange; omega) ?_
      refine s1 4 192 5 rfl rfl rfl rfl rfl rfl trivial ?_
      refine s1 5 200 6 rfl rfl rfl rfl rfl rfl trivial ?_
      refine s1 6 208 7 rfl rfl rfl rfl rfl rfl trivial ?_
      refine e1 216 rfl ?_
      refine keep [4, 5, 6] rfl ?_
      refine W_ret ?_
      have hzz := zgt_ok hz (by omega) hcl
      exact out3 4 5 6 (SV.i (zgt l n).x) (SV.i (zgA l n : Nat)) (SV.i (zgt l n).e) (π := []) (hout := []) Tryd.results50 rfl rfl rfl (by rw [hzz]; rfl) (by unfold zgA; rw [hzz]; rfl) (by rw [hzz]; rfl) rfl rfl trivial ⟨rfl, rfl⟩
    try simp only [cs, ne_eq] at hc7
    refine W_skip ?_
    refine tn ?_
    refine r0 ?_
    refine s1 28 128 1 rfl rfl rfl rfl rfl rfl trivial ?_
    refine sA 29 136 2 rfl rfl rfl rfl rfl rfl rfl rfl rfl (by unfold inRange; omega) ?_
    refine s1 7 144 3 rfl rfl rfl rfl rfl rfl trivial ?_
    refine e1 152 rfl ?_
    refine bn ?_
    refine tn ?_
    exact again ((k + 1 : Nat)) [] (show (k + 1) ≤ 4 ∧ n + (k + 1) ≤ 8 * l.length ∧ zpre l 4 n 0 = zpre l (4 - (k + 1)) (n + (k + 1)) (k + 1) from ⟨by omega, by omega, hz.trans (zpre_one l k (n + k) (by omega) (by omega) hc7)⟩) (show 4 - (k + 1) < 4 - k from (by omega)) rfl ⟨rfl, rfl, rfl, trivial⟩ trivial
  try simp only [cs, ne_eq] at hc2
  refine W_exit ?_
  refine tx ?_
  refine tx ?_
  refine bx ?_
  refine tn ?_
  obtain ⟨q, m, hq, hz, hm, hek, hem⟩ : ∃ q m : Nat, q ≤ 4 ∧ zpre l 4 n 0 = (true, q, m) ∧ m ≤ 8 * l.length ∧ (k : Int) = q ∧ ((n + k : Nat) : Int) = m := ⟨4, n + k, by omega, by rw [hz, show k = 4 by omega]; rfl, hkn, by omega, rfl⟩
  refine cval 7 (SV.i q) rfl (by rw [hek]) ?_
  refine cval 1 (SV.i m) rfl (by rw [hem]) ?_
  have h59 := clB_59 q
  refine r1 ?_
  refine sLit 1 (intF wL) 30 16 1 rfl rfl rfl rfl rfl rfl rfl rfl rfl (by intro i c hi hc; obtain rfl : c = 0 := (by omega); rcases (show i = 0 ∨ i = 1 ∨ i = 2 ∨ i = 3 ∨ i = 4 by omega) with rfl | rfl | rfl | rfl | rfl <;> rfl) ?_
  refine s1 31 24 2 rfl rfl rfl rfl rfl rfl trivial ?_
  refine s1 32 32 3 rfl rfl rfl rfl rfl rfl (by constructor <;> omega) ?_
  refine s1 33 40 4 rfl rfl rfl rfl rfl rfl (by omega) ?_
  refine val 33 (SV.i (clB q)) rfl (congrArg (fun x => SV.d (D.val (Value.int .i64 x))) (by rw [Int.toNat_natCast]; exact wL_get hq)) ?_
  refine s1 9 48 5 rfl rfl rfl rfl rfl rfl trivial ?_
  refine e1 56 rfl ?_
  refine keep [0, 1, 7, 9] rfl ?_
  refine W_seq ?_
  refine r1 ?_
  refine s1 34 56 1 rfl rfl rfl rfl rfl rfl trivial ?_
  refine s1 35 64 2 rfl rfl rfl rfl rfl rfl trivial ?_
  refine sA 36 72 3 rfl rfl rfl rfl rfl rfl rfl rfl rfl (by unfold inRange; omega) ?_
  refine s1 37 80 4 rfl rfl rfl rfl rfl rfl trivial ?_
  refine s1 38 88 5 rfl rfl rfl rfl rfl rfl (by first | trivial | omega) ?_
  refine sA 39 96 6 rfl rfl rfl rfl rfl rfl rfl rfl rfl (by unfold inRange; omega) ?_
  refine s1 40 104 7 rfl rfl rfl rfl rfl rfl (by first | trivial | omega) ?_
  refine e1 112 rfl ?_
  refine keep [0, 1, 7, 9, 40] rfl ?_
  refine q1 rfl (fun hc10 => ?_) (fun hc10 => ?_)
  · skip
    try simp only [cs, ne_eq] at hc10
    refine r1 ?_
    refine s1 4 112 1 rfl rfl rfl rfl rfl rfl trivial ?_
    refine s1 5 120 2 rfl rfl rfl rfl rfl rfl trivial ?_
    refine s1 6 128 3 rfl rfl rfl rfl rfl rfl trivial ?_
    refine e1 136 rfl ?_
    refine keep [4, 5, 6] rfl ?_
    refine W_ret ?_
    refine tr ?_
    have hzz := zgt_short2 hz (by omega)
    exact out3 4 5 6 (SV.i (zgt l n).x) (SV.i (zgA l n : Nat)) (SV.i (zgt l n).e) (π := []) (hout := []) Tryd.results50 rfl rfl rfl (by rw [hzz]; rfl) (by unfold zgA; rw [hzz]; rfl) (by rw [hzz]; rfl) rfl rfl trivial ⟨rfl, rfl⟩
  try simp only [cs, ne_eq] at hc10
  refine W_skip ?_
  refine tn ?_
  refine r1 ?_
  refine s1 10 112 1 rfl rfl rfl rfl rfl rfl trivial ?_
  refine e1 120 rfl ?_
  refine keep [0, 1, 7, 9, 10] rfl ?_
  refine W_seq ?_
  refine r1 ?_
  refine s1 11 120 1 rfl rfl rfl rfl rfl rfl trivial ?_
  refine e1 128 rfl ?_
  refine keep [0, 1, 7, 9, 10, 11] rfl ?_
  refine W_block ?_
  refine loop (α := Nat) 0 (fun j => [(0, u8V l), (1, SV.i m), (7, SV.i q), (9, SV.i (clB q)), (10, SV.i (numB l m (j))), (11, SV.i (j))]) (fun j => []) (fun j => (j) ≤ clB q) (fun j => clB q - (j)) (((0) : Nat)) [] (fun _ => rfl) (show (0) ≤ clB q from (Nat.zero_le _)) rfl ⟨rfl, rfl, rfl, rfl, rfl, rfl, trivial⟩ trivial (fun j hx => ?_)
  show W _ _ _ ⟨tOf [(0, u8V l), (1, SV.i m), (7, SV.i q), (9, SV.i (clB q)), (10, SV.i (numB l m j)), (11, SV.i j)], hOf [], 0⟩
  have hx : j ≤ clB q := hx
  refine W_seq ?_
  refine r1 ?_
  refine s1 41 0 1 rfl rfl rfl rfl rfl rfl trivial ?_
  refine s1 42 8 2 rfl rfl rfl rfl rfl rfl trivial ?_
  refine s1 43 16 3 rfl rfl rfl rfl rfl rfl (by first | trivial | omega) ?_
  refine e1 24 rfl ?_
  refine keep [0, 1, 7, 9, 10, 11, 43] rfl ?_
  refine q1 rfl (fun hc14 => ?_) (fun hc14 => ?_)
  · skip
    try simp only [cs, ne_eq] at hc14
    have hnum := num59 l m (show j + 1 ≤ 59 by omega)
    have hnum0 := num59 l m (show j ≤ 59 by omega)
    have hbb := bitB_bd l (m + j)
    have hrec : numB l m (j + 1) = 2 * numB l m j + bitB l (m + j) := rfl
    refine W_skip ?_
    refine tn ?_
    refine W_seq ?_
    refine W_block ?_
    refine r0 ?_
    refine s1 46 24 1 rfl rfl rfl rfl rfl rfl trivial ?_
    refine sA 47 32 2 rfl rfl rfl rfl rfl rfl rfl rfl rfl (by unfold inRange; omega) ?_
    refine s1 48 40 3 rfl rfl rfl rfl rfl rfl trivial ?_
    refine s1 49 48 4 rfl rfl rfl rfl rfl rfl trivial ?_
    refine s1 50 56 5 rfl rfl rfl rfl rfl rfl trivial ?_
    refine sA 51 64 6 rfl rfl rfl rfl rfl rfl rfl rfl rfl (by unfold inRange; omega) ?_
    refine c1 (bitAt_any l hlb (m + j) (by omega)) [] [] 52 72 7 rfl rfl rfl rfl rfl rfl rfl rfl Tryd.func80 rfl rfl rfl rfl trivial rfl rfl ?_
    refine sA 53 80 8 rfl rfl rfl rfl rfl rfl rfl rfl rfl (by unfold inRange; omega) ?_
    refine s1 10 88 9 rfl rfl rfl rfl rfl rfl trivial ?_
    refine e1 96 rfl ?_
    refine bn ?_
    refine tn ?_
    refine r0 ?_
    refine s1 44 96 1 rfl rfl rfl rfl rfl rfl trivial ?_
    refine sA 45 104 2 rfl rfl rfl rfl rfl rfl rfl rfl rfl (by unfold inRange; omega) ?_
    refine s1 11 112 3 rfl rfl rfl rfl rfl rfl trivial ?_
    refine e1 120 rfl ?_
    refine tn ?_
    exact again ((j + 1 : Nat)) [] (show (j + 1) ≤ clB q from (by omega)) (show clB q - (j + 1) < clB q - j from (by omega)) rfl ⟨rfl, rfl, rfl, rfl, rfl, rfl, trivial⟩ trivial
  try simp only [cs, ne_eq] at hc14
  refine W_exit ?_
  refine tx ?_
  refine tx ?_
  refine bx ?_
  refine tn ?_
  refine W_seq ?_
  obtain rfl : j = clB q := (by omega)
  have hX := num59 l m h59
  have hX2 := (numB_bd l m (clB q)).2
  refine r1 ?_
  refine s1 54 24 1 rfl rfl rfl rfl rfl rfl trivial ?_
  refine s1 55 32 2 rfl rfl rfl rfl rfl rfl (by first | trivial | omega) ?_
  refine s1 56 40 3 rfl rfl rfl rfl rfl rfl trivial ?_
  refine ask 56 rfl (fun hg17_56 => ?_) (fun hg17_56 => ?_)
  · skip
    try simp only [cs, ne_eq] at hg17_56
    refine g1 2 true 56 57 4 rfl rfl rfl rfl rfl ?_
    refine s1 57 48 4 rfl rfl rfl rfl rfl rfl trivial ?_
    refine g1 2 true 56 58 5 rfl rfl rfl rfl rfl ?_
    refine sLit 1 (intF lowL) 58 56 5 rfl rfl rfl rfl rfl rfl rfl rfl rfl (by intro i c hi hc; obtain rfl : c = 0 := (by omega); rcases (show i = 0 ∨ i = 1 ∨ i = 2 ∨ i = 3 ∨ i = 4 by omega) with rfl | rfl | rfl | rfl | rfl <;> rfl) ?_
    refine g1 2 true 56 59 6 rfl rfl rfl rfl rfl ?_
    refine s1 59 64 6 rfl rfl rfl rfl rfl rfl trivial ?_
    refine g1 2 true 56 60 7 rfl rfl rfl rfl rfl ?_
    refine s1 60 72 7 rfl rfl rfl rfl rfl rfl (by constructor <;> omega) ?_
    refine g1 2 true 56 61 8 rfl rfl rfl rfl rfl ?_
    refine s1 61 80 8 rfl rfl rfl rfl rfl rfl (by omega) ?_
    refine val 61 (SV.i (lowL.getD q 0)) rfl (congrArg (fun x => SV.d (D.val (Value.int .i64 x))) (by rw [Int.toNat_natCast])) ?_
    refine g1 2 true 56 62 9 rfl rfl rfl rfl rfl ?_
    refine s1 62 88 9 rfl rfl rfl rfl rfl rfl (by first | trivial | omega) ?_
    refine s1 63 96 10 rfl rfl rfl rfl rfl rfl trivial ?_
    refine e1 104 rfl ?_
    refine keep [1, 9, 10, 63] rfl ?_
    refine q1 rfl (fun hc17 => ?_) (fun hc17 => ?_)
    · skip
      try simp only [cs, ne_eq] at hc17
      refine r1 ?_
      refine s1 4 104 1 rfl rfl rfl rfl rfl rfl trivial ?_
      refine s1 5 112 2 rfl rfl rfl rfl rfl rfl trivial ?_
      refine s1 6 120 3 rfl rfl rfl rfl rfl rfl trivial ?_
      refine e1 128 rfl ?_
      refine keep [4, 5, 6] rfl ?_
      refine W_ret ?_
      refine tr ?_
      have hzz := zgt_form hz (by omega) (fun e => ((cls_low hq hX.1 hX2).1 e) ⟨by omega, by assumption⟩)
      exact out3 4 5 6 (SV.i (zgt l n).x) (SV.i (zgA l n : Nat)) (SV.i (zgt l n).e) (π := []) (hout := []) Tryd.results50 rfl rfl rfl (by rw [hzz]; rfl) (by unfold zgA; rw [hzz]; rfl) (by rw [hzz]; rfl) rfl rfl trivial ⟨rfl, rfl⟩
    try simp only [cs, ne_eq] at hc17
    refine W_skip ?_
    refine tn ?_
    have hcl : cls (numB l m (clB q)) = q := (cls_low hq hX.1 hX2).2 (by first | omega | (intro h; have := h.2; omega))
    refine r1 ?_
    refine s1 65 104 1 rfl rfl rfl rfl rfl rfl trivial ?_
    refine c1 (refUnf_any (numB l m (clB q)) hX.1 hX.2) [] [] 66 112 2 rfl rfl rfl rfl rfl rfl rfl rfl Tryd.func81 rfl rfl rfl rfl trivial rfl rfl ?_
    refine s1 64 120 3 rfl rfl rfl rfl rfl rfl trivial ?_
    refine s1 67 128 4 rfl rfl rfl rfl rfl rfl trivial ?_
    refine s1 68 136 5 rfl rfl rfl rfl rfl rfl trivial ?_
    refine s1 12 144 6 rfl rfl rfl rfl rfl rfl trivial ?_
    refine s1 13 152 7 rfl rfl rfl rfl rfl rfl trivial ?_
    refine e1 160 rfl ?_
    refine keep [1, 9, 12] rfl ?_
    refine r1 ?_
    refine s1 69 160 1 rfl rfl rfl rfl rfl rfl trivial ?_
    refine s1 70 168 2 rfl rfl rfl rfl rfl rfl trivial ?_
    refine s1 71 176 3 rfl rfl rfl rfl rfl rfl trivial ?_
    refine sA 72 184 4 rfl rfl rfl rfl rfl rfl rfl rfl rfl (by unfold inRange; omega) ?_
    refine s1 4 192 5 rfl rfl rfl rfl rfl rfl trivial ?_
    refine s1 5 200 6 rfl rfl rfl rfl rfl rfl trivial ?_
    refine s1 6 208 7 rfl rfl rfl rfl rfl rfl trivial ?_
    refine e1 216 rfl ?_
    refine keep [4, 5, 6] rfl ?_
    refine W_ret ?_
    have hzz := zgt_ok hz (by omega) hcl
    exact out3 4 5 6 (SV.i (zgt l n).x) (SV.i (zgA l n : Nat)) (SV.i (zgt l n).e) (π := []) (hout := []) Tryd.results50 rfl rfl rfl (by rw [hzz]; rfl) (by unfold zgA; rw [hzz]; rfl) (by rw [hzz]; rfl) rfl rfl trivial ⟨rfl, rfl⟩
  try simp only [cs, ne_eq] at hg17_56
  refine g0 2 true 56 57 4 rfl rfl rfl rfl rfl rfl ?_
  refine g0 2 true 56 58 5 rfl rfl rfl rfl rfl rfl ?_
  refine g0 2 true 56 59 6 rfl rfl rfl rfl rfl rfl ?_
  refine g0 2 true 56 60 7 rfl rfl rfl rfl rfl rfl ?_
  refine g0 2 true 56 61 8 rfl rfl rfl rfl rfl rfl ?_
  refine g0 2 true 56 62 9 rfl rfl rfl rfl rfl rfl ?_
  refine s1 63 96 10 rfl rfl rfl rfl rfl rfl trivial ?_
  refine e1 104 rfl ?_
  refine keep [1, 9, 10, 63] rfl ?_
  refine q1 rfl (fun hc17 => ?_) (fun hc17 => ?_)
  · skip
    exact absurd hc17 (by decide)
  try simp only [cs, ne_eq] at hc17
  refine W_skip ?_
  refine tn ?_
  have hcl : cls (numB l m (clB q)) = q := (cls_low hq hX.1 hX2).2 (by first | omega | (intro h; have := h.2; omega))
  refine r1 ?_
  refine s1 65 104 1 rfl rfl rfl rfl rfl rfl trivial ?_
  refine c1 (refUnf_any (numB l m (clB q)) hX.1 hX.2) [] [] 66 112 2 rfl rfl rfl rfl rfl rfl rfl rfl Tryd.func81 rfl rfl rfl rfl trivial rfl rfl ?_
  refine s1 64 120 3 rfl rfl rfl rfl rfl rfl trivial ?_
  refine s1 67 128 4 rfl rfl rfl rfl rfl rfl trivial ?_
  refine s1 68 136 5 rfl rfl rfl rfl rfl rfl trivial ?_
  refine s1 12 144 6 rfl rfl rfl rfl rfl rfl trivial ?_
  refine s1 13 152 7 rfl rfl rfl rfl rfl rfl trivial ?_
  refine e1 160 rfl ?_
  refine keep [1, 9, 12] rfl ?_
  refine r1 ?_
  refine s1 69 160 1 rfl rfl rfl rfl rfl rfl trivial ?_
  refine s1 70 168 2 rfl rfl rfl rfl rfl rfl trivial ?_
  refine s1 71 176 3 rfl rfl rfl rfl rfl rfl trivial ?_
  refine sA 72 184 4 rfl rfl rfl rfl rfl rfl rfl rfl rfl (by unfold inRange; omega) ?_
  refine s1 4 192 5 rfl rfl rfl rfl rfl rfl trivial ?_
  refine s1 5 200 6 rfl rfl rfl rfl rfl rfl trivial ?_
  refine s1 6 208 7 rfl rfl rfl rfl rfl rfl trivial ?_
  refine e1 216 rfl ?_
  refine keep [4, 5, 6] rfl ?_
  refine W_ret ?_
  have hzz := zgt_ok hz (by omega) hcl
  exact out3 4 5 6 (SV.i (zgt l n).x) (SV.i (zgA l n : Nat)) (SV.i (zgt l n).e) (π := []) (hout := []) Tryd.results50 rfl rfl rfl (by rw [hzz]; rfl) (by unfold zgA; rw [hzz]; rfl) (by rw [hzz]; rfl) rfl rfl trivial ⟨rfl, rfl⟩
theorem refSame_any (x y : List Int) (hx : Bytes x) (hy : Bytes y) : Spec Tryd.prog GC 51 [u8V x, u8V y] [] (fun r ho => r = SV.b (decide (x = y)) ∧ ho = []) := by
  refine start 10 0 Tryd.func51 rfl rfl rfl rfl ?_
  refine r1 ?_
  refine s1 4 0 1 rfl rfl rfl rfl rfl rfl trivial ?_
  refine e1 8 rfl ?_
  refine keep [0, 1] rfl ?_
  refine r1 ?_
  refine s1 5 8 1 rfl rfl rfl rfl rfl rfl trivial ?_
  refine sStr (bstr x) 6 16 2 rfl rfl rfl rfl rfl rfl rfl rfl rfl rfl (bstr_len x) (bstr_get hx) ?_
  refine s1 7 24 3 rfl rfl rfl rfl rfl rfl trivial ?_
  refine sStr (bstr y) 8 32 4 rfl rfl rfl rfl rfl rfl rfl rfl rfl rfl (bstr_len y) (bstr_get hy) ?_
  refine s1 9 40 5 rfl rfl rfl rfl rfl rfl (by first | trivial | omega) ?_
  refine s1 4 48 6 rfl rfl rfl rfl rfl rfl trivial ?_
  refine e1 56 rfl ?_
  refine keep [4] rfl ?_
  refine W_ret ?_
  exact out1 4 (SV.b (decide (x = y))) (π := []) (hout := []) Tryd.results51 rfl (by show SV.b _ = SV.b _; refine congrArg SV.b (Bool.eq_iff_iff.2 ?_); simp only [decide_eq_true_eq, beq_iff_eq]; exact ⟨fun h => bstr_inj hx hy (by simpa using h), fun h => by rw [h]⟩) rfl rfl trivial ⟨rfl, rfl⟩
theorem sfault_own (l : List Smp) (hin : l.length ≤ 1000000) : Spec Tryd.prog GC 36 [.sl 0 0 l.length] [.rows 67 2 l.length (smpF l)] (fun r ho => r = SV.i (sfault l) ∧ ho = [some (.rows 67 2 l.length (smpF l))]) := by
  refine start 39 1 Tryd.func36 rfl rfl rfl rfl ?_
  refine r1 ?_
  refine s1 2 1 1 rfl rfl rfl rfl rfl rfl trivial ?_
  refine e1 9 rfl ?_
  refine keep [0] rfl ?_
  refine W_seq ?_
  refine r1 ?_
  refine s1 5 9 1 rfl rfl rfl rfl rfl rfl trivial ?_
  refine s1 6 17 2 rfl rfl rfl rfl rfl rfl (by first | trivial | omega) ?_
  refine s1 7 25 3 rfl rfl rfl rfl rfl rfl (by first | trivial | omega) ?_
  refine e1 33 rfl ?_
  refine keep [0, 7] rfl ?_
  refine q1 rfl (fun hc1 => ?_) (fun hc1 => ?_)
  · skip
    try simp only [cs, ne_eq] at hc1
    refine r1 ?_
    refine s1 2 33 1 rfl rfl rfl rfl rfl rfl trivial ?_
    refine e1 41 rfl ?_
    refine keep [2] rfl ?_
    refine W_ret ?_
    refine tr ?_
    exact out1 2 (SV.i (sfault l)) (π := [0]) (hout := [some (.rows 67 2 l.length (smpF l))]) Tryd.results36 rfl (by unfold sfault; rw [if_pos (by omega)]; rfl) rfl rfl ⟨rfl, trivial⟩ ⟨rfl, rfl⟩
  try simp only [cs, ne_eq] at hc1
  refine W_skip ?_
  refine tn ?_
  refine W_seq ?_
  refine r1 ?_
  refine s1 8 33 1 rfl rfl rfl rfl rfl rfl trivial ?_
  refine s1 9 41 2 rfl rfl rfl rfl rfl rfl (by first | trivial | omega) ?_
  refine s1 10 49 3 rfl rfl rfl rfl rfl rfl trivial ?_
  refine e1 57 rfl ?_
  refine keep [0, 8, 9, 10] rfl ?_
  refine W_block ?_
  have hl2 : l.length ≤ 120 := (by omega)
  refine loop (α := Nat) 1 (fun k => [(0, .sl 0 0 l.length), (8, .sl 0 0 l.length), (9, SV.i l.length), (10, SV.i (k))]) (fun k => [some (.rows 67 2 l.length (smpF l))]) (fun k => (k) ≤ l.length ∧ faultTo l (k) = 0) (fun k => l.length - (k)) (((0) : Nat)) [0] (fun _ => rfl) (show (0) ≤ l.length ∧ faultTo l (0) = 0 from ⟨Nat.zero_le _, rfl⟩) rfl ⟨rfl, rfl, rfl, rfl, trivial⟩ ⟨rfl, trivial⟩ (fun k hx => ?_)
  show W _ _ _ ⟨tOf [(0, .sl 0 0 l.length), (8, .sl 0 0 l.length), (9, SV.i l.length), (10, SV.i k)], hOf [some (.rows 67 2 l.length (smpF l))], 1⟩
  have hx : k ≤ l.length ∧ faultTo l k = 0 := hx
  obtain ⟨hk, hf⟩ := hx
  refine r1 ?_
  refine s1 11 1 1 rfl rfl rfl rfl rfl rfl (by first | trivial | omega) ?_
  refine e1 9 rfl ?_
  refine keep [0, 8, 9, 10, 11] rfl ?_
  refine W_seq ?_
  refine q1 rfl (fun hc4 => ?_) (fun hc4 => ?_)
  · skip
    try simp only [cs, ne_eq] at hc4
    refine W_skip ?_
    refine tn ?_
    refine W_seq ?_
    refine W_block ?_
    refine r1 ?_
    refine s1 12 9 1 rfl rfl rfl rfl rfl rfl trivial ?_
    refine s1 13 17 2 rfl rfl rfl rfl rfl rfl (by first | trivial | omega) ?_
    refine s1 14 25 3 rfl rfl rfl rfl rfl rfl (by first | trivial | omega) ?_
    refine val 14 (smpS (l.getD k default)) rfl (by first | rfl | (simp only [Nat.zero_add, Int.toNat_natCast]; rfl)) ?_
    refine s1 4 33 4 rfl rfl rfl rfl rfl rfl trivial ?_
    refine s1 3 41 5 rfl rfl rfl rfl rfl rfl trivial ?_
    refine s0 49 6 rfl rfl rfl rfl rfl (by first | trivial | omega) ?_
    refine e1 57 rfl ?_
    refine keep [0, 3, 4, 8, 9, 10] rfl ?_
    refine W_seq ?_
    refine r1 ?_
    refine s1 15 57 1 rfl rfl rfl rfl rfl rfl trivial ?_
    refine s1 16 65 2 rfl rfl rfl rfl rfl rfl (by first | trivial | omega) ?_
    refine c1 (inb_any (l.getD k default).t) [] [] 17 73 3 rfl rfl rfl rfl rfl rfl rfl rfl Tryd.func76 rfl rfl rfl rfl trivial rfl rfl ?_
    refine s1 18 81 4 rfl rfl rfl rfl rfl rfl trivial ?_
    refine s1 19 89 5 rfl rfl rfl rfl rfl rfl trivial ?_
    refine ask 19 rfl (fun hg6_19 => ?_) (fun hg6_19 => ?_)
    · skip
      try simp only [cs, ne_eq] at hg6_19
      refine g0 4 false 19 20 6 rfl rfl rfl rfl rfl rfl ?_
      refine g0 4 false 19 21 7 rfl rfl rfl rfl rfl rfl ?_
      refine g0 4 false 19 22 8 rfl rfl rfl rfl rfl rfl ?_
      refine g0 4 false 19 23 9 rfl rfl rfl rfl rfl rfl ?_
      refine s1 24 129 10 rfl rfl rfl rfl rfl rfl trivial ?_
      refine e1 137 rfl ?_
      refine keep [0, 3, 4, 8, 9, 10, 24] rfl ?_
      refine q1 rfl (fun hc6 => ?_) (fun hc6 => ?_)
      · skip
        try simp only [cs, ne_eq] at hc6
        refine r1 ?_
        refine s1 2 137 1 rfl rfl rfl rfl rfl rfl trivial ?_
        refine e1 145 rfl ?_
        refine keep [2] rfl ?_
        refine W_ret ?_
        refine tr ?_
        refine br ?_
        refine tr ?_
        refine tr ?_
        refine br ?_
        refine tr ?_
        exact out1 2 (SV.i (sfault l)) (π := [0]) (hout := [some (.rows 67 2 l.length (smpF l))]) Tryd.results36 rfl (by unfold sfault; rw [if_neg (by omega)]; have hlf : lfault (lstN l k) (l.getD k default) = 11 := (by unfold lfault; rw [if_neg (by rintro ⟨g1, g2⟩; simp_all)]); rw [faultTo_at (by omega) hf (by rw [hlf]; decide), hlf]; rfl) rfl rfl ⟨rfl, trivial⟩ ⟨rfl, rfl⟩
      exact absurd hc6 (by decide)
    try simp only [cs, ne_eq] at hg6_19
    refine g1 4 false 19 20 6 rfl rfl rfl rfl rfl ?_
    refine s1 20 97 6 rfl rfl rfl rfl rfl rfl trivial ?_
    refine g1 4 false 19 21 7 rfl rfl rfl rfl rfl ?_
    refine s1 21 105 7 rfl rfl rfl rfl rfl rfl (by first | trivial | omega) ?_
    refine g1 4 false 19 22 8 rfl rfl rfl rfl rfl ?_
    refine c1 (inb_any (l.getD k default).v) [] [] 22 113 8 rfl rfl rfl rfl rfl rfl rfl rfl Tryd.func76 rfl rfl rfl rfl trivial rfl rfl ?_
    refine g1 4 false 19 23 9 rfl rfl rfl rfl rfl ?_
    refine s1 23 121 9 rfl rfl rfl rfl rfl rfl trivial ?_
    refine s1 24 129 10 rfl rfl rfl rfl rfl rfl trivial ?_
    refine e1 137 rfl ?_
    refine keep [0, 3, 4, 8, 9, 10, 24] rfl ?_
    refine q1 rfl (fun hc6 => ?_) (fun hc6 => ?_)
    · skip
      try simp only [cs, ne_eq] at hc6
      refine r1 ?_
      refine s1 2 137 1 rfl rfl rfl rfl rfl rfl trivial ?_
      refine e1 145 rfl ?_
      refine keep [2] rfl ?_
      refine W_ret ?_
      refine tr ?_
      refine br ?_
      refine tr ?_
      refine tr ?_
      refine br ?_
      refine tr ?_
      exact out1 2 (SV.i (sfault l)) (π := [0]) (hout := [some (.rows 67 2 l.length (smpF l))]) Tryd.results36 rfl (by unfold sfault; rw [if_neg (by omega)]; have hlf : lfault (lstN l k) (l.getD k default) = 11 := (by unfold lfault; rw [if_neg (by rintro ⟨g1, g2⟩; simp_all)]); rw [faultTo_at (by omega) hf (by rw [hlf]; decide), hlf]; rfl) rfl rfl ⟨rfl, trivial⟩ ⟨rfl, rfl⟩
    try simp only [cs, ne_eq] at hc6
    refine W_skip ?_
    refine tn ?_
    refine rd1 rfl ?_
    refine d1 25 137 1 rfl rfl rfl rfl rfl rfl trivial ?_
    refine d1 26 145 2 rfl rfl rfl rfl rfl rfl (by first | trivial | omega) ?_
    refine d1 27 153 3 rfl rfl rfl rfl rfl rfl trivial ?_
    refine ask 27 rfl (fun hg8_27 => ?_) (fun hg8_27 => ?_)
    · skip
      try simp only [cs, ne_eq] at hg8_27
      refine g1 2 true 27 28 4 rfl rfl rfl rfl rfl ?_
      refine d1 28 161 4 rfl rfl rfl rfl rfl rfl trivial ?_
      refine g1 2 true 27 29 5 rfl rfl rfl rfl rfl ?_
      refine d1 29 169 5 rfl rfl rfl rfl rfl rfl (by first | trivial | omega) ?_
      refine g1 2 true 27 30 6 rfl rfl rfl rfl rfl ?_
      refine d1 30 177 6 rfl rfl rfl rfl rfl rfl trivial ?_
      refine g1 2 true 27 31 7 rfl rfl rfl rfl rfl ?_
      refine d1 31 185 7 rfl rfl rfl rfl rfl rfl trivial ?_
      refine g1 2 true 27 32 8 rfl rfl rfl rfl rfl ?_
      refine dA 32 193 8 rfl rfl rfl rfl rfl rfl rfl rfl rfl (by unfold inRange; omega) ?_
      refine g1 2 true 27 33 9 rfl rfl rfl rfl rfl ?_
      refine d1 33 201 9 rfl rfl rfl rfl rfl rfl (by first | trivial | omega) ?_
      refine g1 2 true 27 34 10 rfl rfl rfl rfl rfl ?_
      refine d1 34 209 10 rfl rfl rfl rfl rfl rfl trivial ?_
      refine g1 2 true 27 35 11 rfl rfl rfl rfl rfl ?_
      refine d1 35 217 11 rfl rfl rfl rfl rfl rfl (by omega) ?_
      refine val 35 (SV.i (l.getD (k - 1) default).t) rfl (by rw [show ((k : Int) - 1).toNat = k - 1 by omega]; show SV.i (l.getD (0 + (k - 1)) default).t = _; rw [Nat.zero_add]) ?_
      refine g1 2 true 27 36 12 rfl rfl rfl rfl rfl ?_
      refine d1 36 225 12 rfl rfl rfl rfl rfl rfl (by first | trivial | omega) ?_
      refine d1 37 233 13 rfl rfl rfl rfl rfl rfl trivial ?_
      refine de1 241 rfl (by kernel_rfl) ?_
      refine keep [0, 8, 9, 10, 37] rfl ?_
      refine q1 rfl (fun hc8 => ?_) (fun hc8 => ?_)
      · skip
        try simp only [cs, ne_eq] at hc8
        refine r1 ?_
        refine s1 2 241 1 rfl rfl rfl rfl rfl rfl trivial ?_
        refine e1 249 rfl ?_
        refine keep [2] rfl ?_
        refine W_ret ?_
        refine br ?_
        refine tr ?_
        refine tr ?_
        refine br ?_
        refine tr ?_
        exact out1 2 (SV.i (sfault l)) (π := [0]) (hout := [some (.rows 67 2 l.length (smpF l))]) Tryd.results36 rfl (by unfold sfault; rw [if_neg (by omega)]; have hlf : lfault (lstN l k) (l.getD k default) = 9 := (by unfold lfault; rw [if_pos (by constructor <;> simp_all), if_pos (by rw [lstN_n, (lstN_t l (by omega)).1]; omega)]); rw [faultTo_at (by omega) hf (by rw [hlf]; decide), hlf]; rfl) rfl rfl ⟨rfl, trivial⟩ ⟨rfl, rfl⟩
      try simp only [cs, ne_eq] at hc8
      refine W_skip ?_
      refine bn ?_
      refine tn ?_
      refine r0 ?_
      refine sA 38 241 1 rfl rfl rfl rfl rfl rfl rfl rfl rfl (by unfold inRange; omega) ?_
      refine s1 10 249 2 rfl rfl rfl rfl rfl rfl trivial ?_
      refine e1 257 rfl ?_
      refine tn ?_
      exact again ((k + 1 : Nat)) [0] (show (k + 1) ≤ l.length ∧ faultTo l (k + 1) = 0 from ⟨by omega, faultTo_step hf (by unfold lfault; rw [if_pos (by constructor <;> simp_all), if_neg (by rw [lstN_n]; rintro ⟨g1, g2⟩; rw [(lstN_t l (by omega)).1] at g2; omega)])⟩) (show l.length - (k + 1) < l.length - k from (by omega)) rfl ⟨rfl, rfl, rfl, rfl, trivial⟩ ⟨rfl, trivial⟩
    try simp only [cs, ne_eq] at hg8_27
    refine g0 2 true 27 28 4 rfl rfl rfl rfl rfl rfl ?_
    refine g0 2 true 27 29 5 rfl rfl rfl rfl rfl rfl ?_
    refine g0 2 true 27 30 6 rfl rfl rfl rfl rfl rfl ?_
    refine g0 2 true 27 31 7 rfl rfl rfl rfl rfl rfl ?_
    refine g0 2 true 27 32 8 rfl rfl rfl rfl rfl rfl ?_
    refine g0 2 true 27 33 9 rfl rfl rfl rfl rfl rfl ?_
    refine g0 2 true 27 34 10 rfl rfl rfl rfl rfl rfl ?_
    refine g0 2 true 27 35 11 rfl rfl rfl rfl rfl rfl ?_
    refine g0 2 true 27 36 12 rfl rfl rfl rfl rfl rfl ?_
    refine d1 37 233 13 rfl rfl rfl rfl rfl rfl trivial ?_
    refine de1 241 rfl (by kernel_rfl) ?_
    refine keep [0, 8, 9, 10, 37] rfl ?_
    refine q1 rfl (fun hc8 => ?_) (fun hc8 => ?_)
    · skip
      exact absurd hc8 (by decide)
    try simp only [cs, ne_eq] at hc8
    refine W_skip ?_
    refine bn ?_
    refine tn ?_
    refine r0 ?_
    refine sA 38 241 1 rfl rfl rfl rfl rfl rfl rfl rfl rfl (by unfold inRange; omega) ?_
    refine s1 10 249 2 rfl rfl rfl rfl rfl rfl trivial ?_
    refine e1 257 rfl ?_
    refine tn ?_
    exact again ((k + 1 : Nat)) [0] (show (k + 1) ≤ l.length ∧ faultTo l (k + 1) = 0 from ⟨by omega, faultTo_step hf (by unfold lfault; rw [if_pos (by constructor <;> simp_all), if_neg (by rw [lstN_n]; rintro ⟨g1, g2⟩; rw [(lstN_t l (by omega)).1] at g2; omega)])⟩) (show l.length - (k + 1) < l.length - k from (by omega)) rfl ⟨rfl, rfl, rfl, rfl, trivial⟩ ⟨rfl, trivial⟩
  try simp only [cs, ne_eq] at hc4
  refine W_exit ?_
  refine tx ?_
  refine tx ?_
  refine bx ?_
  refine tn ?_
  refine r1 ?_
  refine s1 2 9 1 rfl rfl rfl rfl rfl rfl trivial ?_
  refine e1 17 rfl ?_
  refine keep [2] rfl ?_
  refine W_ret ?_
  exact out1 2 (SV.i (sfault l)) (π := [0]) (hout := [some (.rows 67 2 l.length (smpF l))]) Tryd.results36 rfl (by unfold sfault; rw [if_neg (by omega), show l.length = k by omega, hf]; rfl) rfl rfl ⟨rfl, trivial⟩ ⟨rfl, rfl⟩
end Go.Proofs.YtpdojmebloekgaaDoor.Nice.Co
namespace Go.Proofs.YtpdojmebloekgaaDoor.Nice.Co
open Go
set_option linter.unusedVariables false
set_option linter.unusedSimpArgs false
set_option maxRecDepth 100000
set_option maxHeartbeats 4000000
/-- The bits from n on, w of them. -/
def bl (l : List Int) (n w : Nat) : List Int := (List.range w).map fun i => bitB l (n + i)
theorem bl_len (l : List Int) (n w : Nat) : (bl l n w).length = w := by simp [bl]
theorem bl_bits (l : List Int) (n w : Nat) : AllBits (bl l n w) := by
  intro x hx
  obtain ⟨j, _, rfl⟩ := List.mem_map.1 hx
  exact bitB_bd l _
theorem bl_get (l : List Int) (n w i : Nat) : (bl l n w).getD i 0 = if i < w then bitB l (n + i) else 0 := by
  unfold bl
  by_cases h : i < w
  · rw [if_pos h]; simp [List.getD, h]
  · rw [if_neg h]; simp [List.getD, h]
theorem bl_cat (l : List Int) (n a b : Nat) : bl l n a ++ bl l (n + a) b = bl l n (a + b) := by
  unfold bl
  rw [List.range_add, List.map_append, List.map_map]
  congr 1
  exact List.map_congr_left fun i _ => by show bitB l (n + a + i) = bitB l (n + (a + i)); rw [Nat.add_assoc]
theorem num_bit (l : List Int) (n : Nat) : ∀ w j, j < w → numB l n w / 2 ^ (w - 1 - j) % 2 = bitB l (n + j)
  | 0, j, h => by omega
  | w + 1, j, h => by
    have hb := bitB_bd l (n + w)
    by_cases e : j = w
    · subst e
      rw [show j + 1 - 1 - j = 0 by omega, Int.pow_zero, Int.ediv_one]
      show (2 * numB l n j + bitB l (n + j)) % 2 = _
      omega
    · have ih := num_bit l n w j (by omega)
      rw [show w + 1 - 1 - j = (w - 1 - j) + 1 by omega, Int.pow_succ, Int.mul_comm, ← Int.ediv_ediv_of_nonneg (by decide)]
      show (2 * numB l n w + bitB l (n + w)) / 2 / _ % 2 = _
      rw [show (2 * numB l n w + bitB l (n + w)) / 2 = numB l n w by omega]
      exact ih
theorem bits_num (l : List Int) (n w : Nat) : bitsOf w (numB l n w) = bl l n w := by
  apply List.ext_getElem?
  intro j
  by_cases h : j < w
  · rw [bitsOf_get w j _ h, num_bit l n w j h]; simp [bl, h]
  · rw [List.getElem?_eq_none (by rw [bitsOf_length]; omega), List.getElem?_eq_none (by rw [bl_len]; omega)]
theorem zpre_bits {l : List Int} {n q m : Nat} (hn : n ≤ 8 * l.length) (h : zpre l 4 n 0 = (true, q, m)) : q ≤ 4 ∧ m = n + clW q ∧ bitsOf (clW q) (clH q) = bl l n (clW q) := by
  have hc : clW 0 = 1 ∧ clW 1 = 2 ∧ clW 2 = 3 ∧ clW 3 = 4 ∧ clW 4 = 4 := ⟨rfl, rfl, rfl, rfl, rfl⟩
  have b0 := bitB_bd l n; have b1 := bitB_bd l (n + 1); have b2 := bitB_bd l (n + 2); have b3 := bitB_bd l (n + 3)
  simp only [zpre, Nat.zero_add, Nat.reduceAdd, Nat.add_assoc] at h
  split at h
  · cases h
  split at h
  · next h0 =>
    cases h
    refine ⟨by omega, rfl, ?_⟩
    show [0] = [bitB l (n + 0)]
    rw [Nat.add_zero, h0]
  next e0 =>
  have b0 : bitB l n = 1 := by omega
  split at h
  · cases h
  split at h
  · next h0 =>
    cases h
    refine ⟨by omega, rfl, ?_⟩
    show [1, 0] = [bitB l (n + 0), bitB l (n + 1)]
    rw [Nat.add_zero, b0, h0]
  next e1 =>
  have b1 : bitB l (n + 1) = 1 := by omega
  split at h
  · cases h
  split at h
  · next h0 =>
    cases h
    refine ⟨by omega, rfl, ?_⟩
    show [1, 1, 0] = [bitB l (n + 0), bitB l (n + 1), bitB l (n + 2)]
    rw [Nat.add_zero, b0, b1, h0]
  next e2 =>
  have b2 : bitB l (n + 2) = 1 := by omega
  split at h
  · cases h
  split at h
  · next h0 =>
    cases h
    refine ⟨by omega, rfl, ?_⟩
    show [1, 1, 1, 0] = [bitB l (n + 0), bitB l (n + 1), bitB l (n + 2), bitB l (n + 3)]
    rw [Nat.add_zero, b0, b1, b2, h0]
  next e3 =>
  have b3 : bitB l (n + 3) = 1 := by omega
  cases h
  refine ⟨by omega, rfl, ?_⟩
  show [1, 1, 1, 1] = [bitB l (n + 0), bitB l (n + 1), bitB l (n + 2), bitB l (n + 3)]
  rw [Nat.add_zero, b0, b1, b2, b3]
theorem fold_unf {v : Int} (h : 0 ≤ v) : zFold (zUnf v) = v := by unfold zFold zUnf; repeat' split
                                                                  all_goals omega
theorem zgt_bits {l : List Int} {n : Nat} (hn : n ≤ 8 * l.length) (h : (zgt l n).e = 0) : n ≤ (zgt l n).at' ∧ zbits (zgt l n).x = bl l n ((zgt l n).at' - n) := by
  obtain ⟨f, q, m, hz⟩ : ∃ f q m, zpre l 4 n 0 = (f, q, m) := ⟨_, _, _, rfl⟩
  cases f with
  | false => rw [zgt_short hz] at h; exact absurd h (show ¬ (5 : Int) = 0 by decide)
  | true =>
    by_cases h2 : 8 * l.length < m + clB q
    · rw [zgt_short2 hz h2] at h; exact absurd h (show ¬ (5 : Int) = 0 by decide)
    by_cases h3 : cls (numB l m (clB q)) = q
    · rw [zgt_ok hz h2 h3]
      obtain ⟨hq, hm, hb⟩ := zpre_bits hn hz
      have hX := num59 l m (clB_59 q)
      refine ⟨by simp only []; omega, ?_⟩
      show zbits (zUnf (numB l m (clB q))) = bl l n (m + clB q - n)
      unfold zbits
      rw [fold_unf hX.1, h3, hb, bits_num, hm, bl_cat]
      congr 1; omega
    · rw [zgt_form hz h2 h3] at h; exact absurd h (show ¬ (4 : Int) = 0 by decide)
theorem numsN_pre (M : List Smp) (s : Smp) : ∀ k, k ≤ M.length → numsN (M ++ [s]) k = numsN M k
  | 0, _ => rfl
  | k + 1, h => by
    rw [numsN_succ, numsN_succ, numsN_pre M s k (by omega), lstN_pre M s k (by omega)]
    have : (M ++ [s]).getD k default = M.getD k default := by simp only [List.getD]; rw [List.getElem?_append_left (by omega)]
    rw [this]
theorem c_sample (a : Lst) (x y : Int) : cT a (sampleOf a x y) = x ∧ cV a (sampleOf a x y) = y := by
  unfold cT cV sampleOf
  by_cases h : a.n = 0
  · rw [if_pos h, if_pos h, if_pos h]; exact ⟨rfl, rfl⟩
  · rw [if_neg h, if_neg h, if_neg h]; exact ⟨by simp only []; omega, by simp only []; omega⟩
theorem decS_bits {l : List Int} (h0 : l.length ≠ 0) : ∀ k, (decS l k).e = 0 → (decS l k).M.length = k ∧ 8 ≤ (decS l k).n ∧ (decS l k).n ≤ 8 * l.length ∧ faultTo (decS l k).M k = 0 ∧ (numsN (decS l k).M k).flatMap zbits = bl l 8 ((decS l k).n - 8)
  | 0, _ => ⟨rfl, Nat.le_refl _, by show 8 ≤ _; omega, rfl, rfl⟩
  | k + 1, h => by
    have hp : (decS l k).e = 0 := by
      refine Decidable.by_contra fun e => ?_
      have : decS l (k + 1) = decS l k := by show decStep l k (decS l k) = _; unfold decStep; rw [if_pos e]
      rw [this] at h; exact e h
    obtain ⟨i1, i2, i3, i4, i5⟩ := decS_bits h0 k hp
    obtain ⟨M, n, e, hd⟩ : ∃ M n e, decS l k = ⟨M, n, e⟩ := ⟨_, _, _, rfl⟩
    rw [hd] at hp i1 i2 i3 i4 i5
    simp only [] at hp i1 i2 i3 i4 i5
    subst hp
    by_cases e1 : (zgt l n).e = 0
    · by_cases e2 : (zgt l (zgt l n).at').e = 0
      · by_cases e3 : lfault (lstN M k) (sampleOf (lstN M k) (zgt l n).x (zgt l (zgt l n).at').x) = 0
        · rw [dec_e4 hd e1 e2 e3]
          obtain ⟨z1, z2⟩ := zgt_bits i3 e1
          obtain ⟨z3, z4⟩ := zgt_bits (zgt_le l n i3) e2
          have hcs := c_sample (lstN M k) (zgt l n).x (zgt l (zgt l n).at').x
          refine ⟨by simp [i1], by simp only []; omega, zgt_le l _ (zgt_le l n i3), ?_, ?_⟩
          · subst i1
            show faultTo (M ++ [_]) (M.length + 1) = 0
            rw [faultTo_snoc M _ i4]; exact e3
          · simp only []
            rw [numsN_succ, numsN_pre M _ k (by omega), lstN_pre M _ k (by omega)]
            rw [show (M ++ [sampleOf (lstN M k) (zgt l n).x (zgt l (zgt l n).at').x]).getD k default = sampleOf (lstN M k) (zgt l n).x (zgt l (zgt l n).at').x by rw [← i1]; exact getD_last M _]
            rw [List.flatMap_append, i5, hcs.1, hcs.2]
            show bl l 8 (n - 8) ++ (zbits _ ++ (zbits _ ++ [])) = _
            rw [List.append_nil, z2, z4]
            have q1 : bl l n ((zgt l n).at' - n) = bl l (8 + (n - 8)) ((zgt l n).at' - n) := by congr 1; omega
            have q2 : bl l (zgt l n).at' ((zgt l (zgt l n).at').at' - (zgt l n).at') = bl l (8 + (n - 8 + ((zgt l n).at' - n))) ((zgt l (zgt l n).at').at' - (zgt l n).at') := by congr 1; omega
            rw [← List.append_assoc, q1, bl_cat, q2, bl_cat]
            congr 1; omega
        · have := dec_e3 hd e1 e2 e3; rw [this] at h; exact absurd h (by decide)
      · have := dec_e2 hd e1 e2; rw [this] at h; exact absurd h e2
    · have := dec_e1 hd e1; rw [this] at h; exact absurd h e1
theorem dec_enc {l : List Int} (h0 : l.length ≠ 0) {M : List Smp} {n : Nat} (hd : decS l (decN l) = ⟨M, n, 0⟩) : M.length = decN l ∧ 8 ≤ n ∧ n ≤ 8 * l.length ∧ faultTo M M.length = 0 ∧ encL M M.length = bl l 0 n := by
  have := decS_bits h0 (decN l) (by rw [hd])
  rw [hd] at this
  obtain ⟨i1, i2, i3, i4, i5⟩ := this
  simp only [] at i1 i2 i3 i4 i5
  refine ⟨i1, i2, i3, by rw [i1]; exact i4, ?_⟩
  rw [encL_eq, i1, i5]
  have hN : ((decN l : Nat) : Int) = numB l 0 8 := by unfold decN; have := (numB_bd l 0 8).1; omega
  rw [hN, bits_num, show bl l 8 (n - 8) = bl l (0 + 8) (n - 8) from rfl, bl_cat]
  congr 1; omega
theorem num_zero {l : List Int} {n : Nat} : ∀ w, numB l n w = 0 ↔ ∀ i, i < w → bitB l (n + i) = 0
  | 0 => ⟨fun _ i h => by omega, fun _ => rfl⟩
  | w + 1 => by
    have h1 := (numB_bd l n w).1
    have h2 := bitB_bd l (n + w)
    have ih := num_zero (l := l) (n := n) w
    constructor
    · intro h i hi
      have h' : 2 * numB l n w + bitB l (n + w) = 0 := h
      by_cases e : i = w
      · subst e; omega
      · exact ih.1 (by omega) i (by omega)
    · intro h
      have a := ih.2 fun i hi => h i (by omega)
      have b := h w (by omega)
      show 2 * numB l n w + bitB l (n + w) = 0
      omega
theorem byte_bits {l : List Int} (hl : Bytes l) (j : Nat) : bitB l (8 * j) * 128 + bitB l (8 * j + 1) * 64 + bitB l (8 * j + 2) * 32 + bitB l (8 * j + 3) * 16 + bitB l (8 * j + 4) * 8 + bitB l (8 * j + 5) * 4 + bitB l (8 * j + 6) * 2 + bitB l (8 * j + 7) = l.getD j 0 := by
  have := hl.b j
  have key : ∀ i, i < 8 → bitB l (8 * j + i) = l.getD j 0 / 2 ^ (7 - i) % 2 := fun i hi => by unfold bitB; rw [show (8 * j + i) / 8 = j by omega, show (8 * j + i) % 8 = i by omega]
  have k0 := key 0 (by omega)
  rw [Nat.add_zero] at k0
  rw [k0, key 1 (by omega), key 2 (by omega), key 3 (by omega), key 4 (by omega), key 5 (by omega), key 6 (by omega), key 7 (by omega)]
  generalize l.getD j 0 = x at *
  show x / 2 ^ 7 % 2 * 128 + x / 2 ^ 6 % 2 * 64 + x / 2 ^ 5 % 2 * 32 + x / 2 ^ 4 % 2 * 16 + x / 2 ^ 3 % 2 * 8 + x / 2 ^ 2 % 2 * 4 + x / 2 ^ 1 % 2 * 2 + x / 2 ^ 0 % 2 = x
  rw [show (2 : Int) ^ 7 = 128 by decide, show (2 : Int) ^ 6 = 64 by decide, show (2 : Int) ^ 5 = 32 by decide, show (2 : Int) ^ 4 = 16 by decide, show (2 : Int) ^ 3 = 8 by decide, show (2 : Int) ^ 2 = 4 by decide, show (2 : Int) ^ 1 = 2 by decide, show (2 : Int) ^ 0 = 1 by decide]
  omega
theorem pack_bit {L : List Int} (hL : AllBits L) (j r : Nat) (hr : r < 8) : packByte L j / 2 ^ (7 - r) % 2 = L.getD (8 * j + r) 0 := by
  have h0 := hL.getD (8 * j); have h1 := hL.getD (8 * j + 1); have h2 := hL.getD (8 * j + 2); have h3 := hL.getD (8 * j + 3)
  have h4 := hL.getD (8 * j + 4); have h5 := hL.getD (8 * j + 5); have h6 := hL.getD (8 * j + 6); have h7 := hL.getD (8 * j + 7)
  have e7 : (2 : Int) ^ 7 = 128 := by decide
  have e6 : (2 : Int) ^ 6 = 64 := by decide
  have e5 : (2 : Int) ^ 5 = 32 := by decide
  have e4 : (2 : Int) ^ 4 = 16 := by decide
  have e3 : (2 : Int) ^ 3 = 8 := by decide
  have e2 : (2 : Int) ^ 2 = 4 := by decide
  have e1 : (2 : Int) ^ 1 = 2 := by decide
  have e0 : (2 : Int) ^ 0 = 1 := by decide
  unfold packByte
  rcases (show r = 0 ∨ r = 1 ∨ r = 2 ∨ r = 3 ∨ r = 4 ∨ r = 5 ∨ r = 6 ∨ r = 7 by omega) with rfl | rfl | rfl | rfl | rfl | rfl | rfl | rfl
  · show _ / 2 ^ 7 % 2 = _; rw [e7]; show _ = L.getD (8 * j) 0; omega
  · show _ / 2 ^ 6 % 2 = _; rw [e6]; omega
  · show _ / 2 ^ 5 % 2 = _; rw [e5]; omega
  · show _ / 2 ^ 4 % 2 = _; rw [e4]; omega
  · show _ / 2 ^ 3 % 2 = _; rw [e3]; omega
  · show _ / 2 ^ 2 % 2 = _; rw [e2]; omega
  · show _ / 2 ^ 1 % 2 = _; rw [e1]; omega
  · show _ / 2 ^ 0 % 2 = _; rw [e0]; omega
theorem pack_iff {l : List Int} (hl : Bytes l) {n : Nat} (hn : n ≤ 8 * l.length) : pack (bl l 0 n) = l ↔ restOK l n := by
  unfold restOK
  constructor
  · intro h
    have hlen : (pack (bl l 0 n)).length = l.length := by rw [h]
    rw [pack_length, bl_len] at hlen
    refine ⟨(num_zero _).2 fun i hi => ?_, by omega⟩
    have hw : (8 * l.length - n) % 8 = 8 * l.length - n := by omega
    have hj : (n + i) / 8 < l.length := by omega
    have hg : l.getD ((n + i) / 8) 0 = packByte (bl l 0 n) ((n + i) / 8) := by
      have := pack_get (bl l 0 n) ((n + i) / 8)
      rw [h, bl_len, if_pos (by omega)] at this
      simp [List.getD, this]
    unfold bitB
    rw [hg, pack_bit (bl_bits l 0 n) _ _ (by omega), show 8 * ((n + i) / 8) + (n + i) % 8 = n + i by omega, bl_get, if_neg (by omega)]
  · rintro ⟨h1, h2⟩
    rw [num_zero] at h1
    have key : ∀ i, i < 8 * l.length → (bl l 0 n).getD i 0 = bitB l i := by
      intro i hi
      rw [bl_get]
      by_cases h : i < n
      · rw [if_pos h, Nat.zero_add]
      · rw [if_neg h]
        have := h1 (i - n) (by omega)
        rw [show n + (i - n) = i by omega] at this
        exact this.symm
    apply List.ext_getElem?
    intro j
    rw [pack_get, bl_len]
    by_cases hj : j < l.length
    · rw [if_pos (by omega)]
      have e : l[j]? = some (l.getD j 0) := by simp [List.getD, hj]
      rw [e, ← byte_bits hl j]
      unfold packByte
      rw [key _ (by omega), key _ (by omega), key _ (by omega), key _ (by omega), key _ (by omega), key _ (by omega), key _ (by omega), key _ (by omega)]
    · rw [if_neg (by omega), List.getElem?_eq_none (by omega)]
theorem smp_bd {M : List Smp} {k : Nat} (hf : faultTo M k = 0) (hMl : M.length = k) (j : Nat) : inB (M.getD j default).t ∧ inB (M.getD j default).v := by
  by_cases hj : j < k
  · exact ⟨(smp_at hf hj).1, (smp_at hf hj).2.1⟩
  · have e : M.getD j default = default := by rw [List.getD_eq_getElem?_getD, List.getElem?_eq_none (by omega)]; rfl
    rw [e]; exact ⟨⟨by decide, by decide⟩, ⟨by decide, by decide⟩⟩
theorem enc_iff {l : List Int} (hl : Bytes l) (h0 : l.length ≠ 0) {M : List Smp} {n : Nat} (hd : decS l (decN l) = ⟨M, n, 0⟩) : encB M = l ↔ restOK l n := by
  obtain ⟨_, _, h3, _, h5⟩ := dec_enc h0 hd
  unfold encB
  rw [h5]
  exact pack_iff hl h3
end Go.Proofs.YtpdojmebloekgaaDoor.Nice.Co
namespace Go.Proofs.YtpdojmebloekgaaDoor.Nice.Co
open Go
set_option linter.unusedVariables false
set_option linter.unusedSimpArgs false
set_option maxRecDepth 100000
set_option maxHeartbeats 4000000
theorem encB_bytes {M : List Smp} (h : sfault M = 0) (hl : M.length ≤ 120) : Bytes (encB M) := by
  have h1 := encL_len M M.length
  have hb := pack_bd (encL M M.length) (encL_bits M M.length)
  refine ⟨by unfold encB; rw [pack_length]; omega, fun k => ?_⟩
  by_cases hk : k < (encB M).length
  · have e : (encB M).getD k 0 = (encB M)[k] := by simp [List.getD, hk]
    rw [e]; exact hb _ (List.getElem_mem hk)
  · rw [List.getD_eq_getElem?_getD, List.getElem?_eq_none (by omega)]; exact ⟨by decide, by decide⟩
theorem decoded_any (l : List Int) (hl : Bytes l) : Spec Tryd.prog GC 21 [u8V l] [] (fun r ho => (decE l = 0 ∧ r = SV.tup [smpV (decM l), SV.i 0] ∧ ho = []) ∨ (decE l ≠ 0 ∧ r = SV.tup [.d .nils, SV.i (decE l)] ∧ ho = [])) := by
  have hlb := hl
  obtain ⟨hl1, hl2⟩ := hl
  refine start 113 0 Tryd.func21 rfl rfl rfl rfl ?_
  refine r1 ?_
  refine s1 2 0 1 rfl rfl rfl rfl rfl rfl trivial ?_
  refine s1 3 8 2 rfl rfl rfl rfl rfl rfl trivial ?_
  refine e1 16 rfl ?_
  refine keep [0] rfl ?_
  refine W_seq ?_
  refine r1 ?_
  refine s1 17 16 1 rfl rfl rfl rfl rfl rfl trivial ?_
  refine s1 18 24 2 rfl rfl rfl rfl rfl rfl (by first | trivial | omega) ?_
  refine s1 19 32 3 rfl rfl rfl rfl rfl rfl (by first | trivial | omega) ?_
  refine e1 40 rfl ?_
  refine keep [0, 19] rfl ?_
  refine q1 rfl (fun hc1 => ?_) (fun hc1 => ?_)
  · skip
    try simp only [cs, ne_eq] at hc1
    refine r1 ?_
    refine s1 2 40 1 rfl rfl rfl rfl rfl rfl trivial ?_
    refine s1 3 48 2 rfl rfl rfl rfl rfl rfl trivial ?_
    refine e1 56 rfl ?_
    refine keep [2, 3] rfl ?_
    refine W_ret ?_
    refine tr ?_
    have hE : decE l = 5 := (by unfold decE; rw [if_pos (by omega)])
    exact out2 2 3 (.d .nils) (SV.i (decE l)) (π := []) (hout := []) Tryd.results21 rfl rfl rfl (by rw [hE]; rfl) rfl rfl trivial (.inr ⟨by rw [hE]; first | decide | assumption, rfl, rfl⟩)
  try simp only [cs, ne_eq] at hc1
  have h0 : l.length ≠ 0 := (by omega)
  have hb0 := hl2 0
  refine W_skip ?_
  refine tn ?_
  refine r1 ?_
  refine s1 20 40 1 rfl rfl rfl rfl rfl rfl trivial ?_
  refine s1 21 48 2 rfl rfl rfl rfl rfl rfl (by constructor <;> omega) ?_
  refine s1 22 56 3 rfl rfl rfl rfl rfl rfl (by omega) ?_
  refine val 22 (.d (.val (.int .u8 (l.getD 0 0)))) rfl rfl ?_
  refine s1 23 64 4 rfl rfl rfl rfl rfl rfl trivial ?_
  refine val 23 (SV.i (l.getD 0 0)) rfl (congrArg (fun x => SV.d (D.val (Value.int .i64 x))) (wrap_in ⟨by omega, by omega⟩)) ?_
  refine s1 4 72 5 rfl rfl rfl rfl rfl rfl trivial ?_
  refine e1 80 rfl ?_
  refine keep [0, 4] rfl ?_
  refine W_seq ?_
  refine r1 ?_
  refine s1 24 80 1 rfl rfl rfl rfl rfl rfl trivial ?_
  refine s1 25 88 2 rfl rfl rfl rfl rfl rfl (by first | trivial | omega) ?_
  refine e1 96 rfl ?_
  refine keep [0, 4, 25] rfl ?_
  refine q1 rfl (fun hc4 => ?_) (fun hc4 => ?_)
  · skip
    try simp only [cs, ne_eq] at hc4
    refine r1 ?_
    refine s1 2 96 1 rfl rfl rfl rfl rfl rfl trivial ?_
    refine s1 3 104 2 rfl rfl rfl rfl rfl rfl trivial ?_
    refine e1 112 rfl ?_
    refine keep [2, 3] rfl ?_
    refine W_ret ?_
    refine tr ?_
    have hE : decE l = 4 := (by unfold decE; rw [if_neg h0, if_pos (by rw [byte8 hlb]; omega)])
    exact out2 2 3 (.d .nils) (SV.i (decE l)) (π := []) (hout := []) Tryd.results21 rfl rfl rfl (by rw [hE]; rfl) rfl rfl trivial (.inr ⟨by rw [hE]; first | decide | assumption, rfl, rfl⟩)
  try simp only [cs, ne_eq] at hc4
  have hN : numB l 0 8 ≤ 120 := (by rw [byte8 hlb]; omega)
  have hN0 := (numB_bd l 0 8).1
  refine W_skip ?_
  refine tn ?_
  refine cval 4 (SV.i (numB l 0 8)) rfl (by rw [byte8 hlb]) ?_
  refine r1 ?_
  refine s1 5 96 1 rfl rfl rfl rfl rfl rfl trivial ?_
  refine e1 104 rfl ?_
  refine keep [0, 4, 5] rfl ?_
  refine r1 ?_
  refine s1 6 104 1 rfl rfl rfl rfl rfl rfl trivial ?_
  refine e1 112 rfl ?_
  refine keep [0, 4, 5, 6] rfl ?_
  refine W_seq ?_
  refine r1 ?_
  refine s1 7 112 1 rfl rfl rfl rfl rfl rfl trivial ?_
  refine e1 120 rfl ?_
  refine keep [0, 4, 5, 6, 7] rfl ?_
  refine W_block ?_
  refine ghostly 6 67 2 (smpF []) rfl ?_
  refine loop (α := Nat × Nat × List Smp) 1 (fun z => [(0, u8V l), (4, SV.i (numB l 0 8)), (5, SV.i (z.2.1)), (6, .sl 0 0 (z.2.2).length), (7, SV.i (z.1))]) (fun z => [some (.rows 67 2 (z.2.2).length (smpF (z.2.2)))]) (fun z => ((z.1) : Int) ≤ numB l 0 8 ∧ decS l (z.1) = ⟨(z.2.2), (z.2.1), 0⟩ ∧ (z.2.2).length = (z.1) ∧ faultTo (z.2.2) (z.1) = 0 ∧ (z.2.1) ≤ 8 * l.length) (fun z => (numB l 0 8).toNat - (z.1)) (((0, 8, []) : Nat × Nat × List Smp)) [120] (fun _ => rfl) (show ((0) : Int) ≤ numB l 0 8 ∧ decS l (0) = ⟨([]), (8), 0⟩ ∧ ([]).length = (0) ∧ faultTo ([]) (0) = 0 ∧ (8) ≤ 8 * l.length from ⟨hN0, rfl, rfl, rfl, by omega⟩) rfl ⟨rfl, rfl, rfl, rfl, rfl, trivial⟩ ⟨rfl, trivial⟩ (fun z hx => ?_)
  obtain ⟨k, n, M⟩ := z
  show W _ _ _ ⟨tOf [(0, u8V l), (4, SV.i (numB l 0 8)), (5, SV.i n), (6, .sl 0 0 M.length), (7, SV.i k)], hOf [some (.rows 67 2 M.length (smpF M))], 1⟩
  have hx : (k : Int) ≤ numB l 0 8 ∧ decS l k = ⟨M, n, 0⟩ ∧ M.length = k ∧ faultTo M k = 0 ∧ n ≤ 8 * l.length := hx
  obtain ⟨hk, hd, hMl, hf, hn⟩ := hx
  refine W_seq ?_
  refine r1 ?_
  refine s1 26 1 1 rfl rfl rfl rfl rfl rfl trivial ?_
  refine s1 27 9 2 rfl rfl rfl rfl rfl rfl trivial ?_
  refine s1 28 17 3 rfl rfl rfl rfl rfl rfl (by first | trivial | omega) ?_
  refine e1 25 rfl ?_
  refine keep [0, 4, 5, 6, 7, 28] rfl ?_
  refine q1 rfl (fun hc9 => ?_) (fun hc9 => ?_)
  · skip
    try simp only [cs, ne_eq] at hc9
    refine W_skip ?_
    refine tn ?_
    refine W_seq ?_
    refine W_block ?_
    refine r1 ?_
    refine s1 32 25 1 rfl rfl rfl rfl rfl rfl trivial ?_
    refine s1 33 33 2 rfl rfl rfl rfl rfl rfl trivial ?_
    refine c1 (zigAt_any l hlb n hn) [] [] 34 41 3 rfl rfl rfl rfl rfl rfl rfl rfl Tryd.func50 rfl rfl rfl rfl trivial rfl rfl ?_
    refine s1 31 49 4 rfl rfl rfl rfl rfl rfl trivial ?_
    refine s1 35 57 5 rfl rfl rfl rfl rfl rfl trivial ?_
    refine s1 36 65 6 rfl rfl rfl rfl rfl rfl trivial ?_
    refine s1 37 73 7 rfl rfl rfl rfl rfl rfl trivial ?_
    refine s1 8 81 8 rfl rfl rfl rfl rfl rfl trivial ?_
    refine s1 9 89 9 rfl rfl rfl rfl rfl rfl trivial ?_
    refine s1 10 97 10 rfl rfl rfl rfl rfl rfl trivial ?_
    refine e1 105 rfl ?_
    refine keep [0, 4, 6, 7, 8, 9, 10] rfl ?_
    refine W_seq ?_
    refine r1 ?_
    refine s1 38 105 1 rfl rfl rfl rfl rfl rfl trivial ?_
    refine s1 39 113 2 rfl rfl rfl rfl rfl rfl (by first | trivial | omega) ?_
    refine e1 121 rfl ?_
    refine keep [0, 4, 6, 7, 8, 9, 10, 39] rfl ?_
    refine q1 rfl (fun hc12 => ?_) (fun hc12 => ?_)
    · skip
      try simp only [cs, ne_eq] at hc12
      refine r1 ?_
      refine s1 40 121 1 rfl rfl rfl rfl rfl rfl trivial ?_
      refine s1 2 129 2 rfl rfl rfl rfl rfl rfl trivial ?_
      refine s1 3 137 3 rfl rfl rfl rfl rfl rfl trivial ?_
      refine e1 145 rfl ?_
      refine keep [2, 3] rfl ?_
      refine W_ret ?_
      refine tr ?_
      refine br ?_
      refine tr ?_
      refine tr ?_
      refine br ?_
      refine tr ?_
      have he := dec_e1 hd hc12
      have hE : decE l = (zgt l n).e := (by rw [decE_loop h0 hN (show k + 1 ≤ decN l by unfold decN; omega) (by rw [he]; exact hc12), he])
      exact out2 2 3 (.d .nils) (SV.i (decE l)) (π := []) (hout := []) Tryd.results21 rfl rfl rfl (by rw [hE]; rfl) rfl rfl trivial (.inr ⟨by rw [hE]; first | decide | assumption, rfl, rfl⟩)
    try simp only [cs, ne_eq] at hc12
    refine W_skip ?_
    refine tn ?_
    refine cval 9 (SV.i ((zgt l n).at' : Nat)) rfl (by unfold zgA; rw [if_pos hc12]) ?_
    refine r1 ?_
    refine s1 42 121 1 rfl rfl rfl rfl rfl rfl trivial ?_
    refine s1 43 129 2 rfl rfl rfl rfl rfl rfl trivial ?_
    refine c1 (zigAt_any l hlb ((zgt l n).at') (zgt_le l n hn)) [] [] 44 137 3 rfl rfl rfl rfl rfl rfl rfl rfl Tryd.func50 rfl rfl rfl rfl trivial rfl rfl ?_
    refine s1 41 145 4 rfl rfl rfl rfl rfl rfl trivial ?_
    refine s1 45 153 5 rfl rfl rfl rfl rfl rfl trivial ?_
    refine s1 46 161 6 rfl rfl rfl rfl rfl rfl trivial ?_
    refine s1 47 169 7 rfl rfl rfl rfl rfl rfl trivial ?_
    refine s1 11 177 8 rfl rfl rfl rfl rfl rfl trivial ?_
    refine s1 12 185 9 rfl rfl rfl rfl rfl rfl trivial ?_
    refine s1 13 193 10 rfl rfl rfl rfl rfl rfl trivial ?_
    refine e1 201 rfl ?_
    refine keep [0, 4, 6, 7, 8, 11, 12, 13] rfl ?_
    refine W_seq ?_
    refine r1 ?_
    refine s1 48 201 1 rfl rfl rfl rfl rfl rfl trivial ?_
    refine s1 49 209 2 rfl rfl rfl rfl rfl rfl (by first | trivial | omega) ?_
    refine e1 217 rfl ?_
    refine keep [0, 4, 6, 7, 8, 11, 12, 13, 49] rfl ?_
    refine q1 rfl (fun hc15 => ?_) (fun hc15 => ?_)
    · skip
      try simp only [cs, ne_eq] at hc15
      refine r1 ?_
      refine s1 50 217 1 rfl rfl rfl rfl rfl rfl trivial ?_
      refine s1 2 225 2 rfl rfl rfl rfl rfl rfl trivial ?_
      refine s1 3 233 3 rfl rfl rfl rfl rfl rfl trivial ?_
      refine e1 241 rfl ?_
      refine keep [2, 3] rfl ?_
      refine W_ret ?_
      refine tr ?_
      refine br ?_
      refine tr ?_
      refine tr ?_
      refine br ?_
      refine tr ?_
      have he := dec_e2 hd hc12 hc15
      have hE : decE l = (zgt l ((zgt l n).at')).e := (by rw [decE_loop h0 hN (show k + 1 ≤ decN l by unfold decN; omega) (by rw [he]; exact hc15), he])
      exact out2 2 3 (.d .nils) (SV.i (decE l)) (π := []) (hout := []) Tryd.results21 rfl rfl rfl (by rw [hE]; rfl) rfl rfl trivial (.inr ⟨by rw [hE]; first | decide | assumption, rfl, rfl⟩)
    try simp only [cs, ne_eq] at hc15
    have hx1 := zgt_sm l n
    have hx2 := zgt_sm l ((zgt l n).at')
    unfold isSm at hx1 hx2
    refine W_skip ?_
    refine tn ?_
    refine cval 12 (SV.i ((zgt l ((zgt l n).at')).at' : Nat)) rfl (by unfold zgA; rw [if_pos hc15]) ?_
    have ho1 := smp_bd hf hMl (k - 1)
    have ho2 := smp_bd hf hMl (k - 2)
    unfold inB at ho1 ho2
    refine r1 ?_
    refine s1 51 217 1 rfl rfl rfl rfl rfl rfl trivial ?_
    refine s1 5 225 2 rfl rfl rfl rfl rfl rfl trivial ?_
    refine e1 233 rfl ?_
    refine keep [0, 4, 5, 6, 7, 8, 11] rfl ?_
    refine r1 ?_
    refine s1 52 233 1 rfl rfl rfl rfl rfl rfl trivial ?_
    refine s1 53 241 2 rfl rfl rfl rfl rfl rfl trivial ?_
    refine s1 54 249 3 rfl rfl rfl rfl rfl rfl trivial ?_
    refine s1 14 257 4 rfl rfl rfl rfl rfl rfl trivial ?_
    refine s0 265 5 rfl rfl rfl rfl rfl (by first | trivial | omega) ?_
    refine e1 273 rfl ?_
    refine keep [0, 4, 5, 6, 7, 14] rfl ?_
    refine W_seq ?_
    refine r1 ?_
    refine s1 55 273 1 rfl rfl rfl rfl rfl rfl trivial ?_
    refine s1 56 281 2 rfl rfl rfl rfl rfl rfl (by first | trivial | omega) ?_
    refine e1 289 rfl ?_
    refine keep [0, 4, 5, 6, 7, 14, 56] rfl ?_
    refine q1 rfl (fun hc19 => ?_) (fun hc19 => ?_)
    · skip
      try simp only [cs, ne_eq] at hc19
      refine rd1 rfl ?_
      refine d1 57 289 1 rfl rfl rfl rfl rfl rfl trivial ?_
      refine d1 58 297 2 rfl rfl rfl rfl rfl rfl (by first | trivial | omega) ?_
      refine d1 59 305 3 rfl rfl rfl rfl rfl rfl trivial ?_
      refine d1 60 313 4 rfl rfl rfl rfl rfl rfl trivial ?_
      refine dA 61 321 5 rfl rfl rfl rfl rfl rfl rfl rfl rfl (by unfold inRange; omega) ?_
      refine d1 62 329 6 rfl rfl rfl rfl rfl rfl (by constructor <;> omega) ?_
      refine d1 63 337 7 rfl rfl rfl rfl rfl rfl trivial ?_
      refine d1 64 345 8 rfl rfl rfl rfl rfl rfl (by omega) ?_
      refine val 64 (SV.i (M.getD (k - 1) default).t) rfl (by rw [show ((k : Int) - 1).toNat = k - 1 by omega]; show SV.i (M.getD (0 + (k - 1)) default).t = _; rw [Nat.zero_add]) ?_
      refine dA 65 353 9 rfl rfl rfl rfl rfl rfl rfl rfl rfl (by unfold inRange; omega) ?_
      refine d1 66 361 10 rfl rfl rfl rfl rfl rfl trivial ?_
      refine d0 369 11 rfl rfl rfl rfl rfl (by first | trivial | omega) ?_
      refine de1 377 rfl (by kernel_rfl) ?_
      refine keep [0, 4, 5, 6, 7, 14] rfl ?_
      refine rd0 rfl ?_
      refine d1 67 377 1 rfl rfl rfl rfl rfl rfl trivial ?_
      refine d1 68 385 2 rfl rfl rfl rfl rfl rfl (by first | trivial | omega) ?_
      refine d1 69 393 3 rfl rfl rfl rfl rfl rfl trivial ?_
      refine d1 70 401 4 rfl rfl rfl rfl rfl rfl trivial ?_
      refine dA 71 409 5 rfl rfl rfl rfl rfl rfl rfl rfl rfl (by unfold inRange; omega) ?_
      refine d1 72 417 6 rfl rfl rfl rfl rfl rfl (by constructor <;> omega) ?_
      refine d1 73 425 7 rfl rfl rfl rfl rfl rfl trivial ?_
      refine d1 74 433 8 rfl rfl rfl rfl rfl rfl (by omega) ?_
      refine val 74 (SV.i (M.getD (k - 1) default).v) rfl (by rw [show ((k : Int) - 1).toNat = k - 1 by omega]; show SV.i (M.getD (0 + (k - 1)) default).v = _; rw [Nat.zero_add]) ?_
      refine dA 75 441 9 rfl rfl rfl rfl rfl rfl rfl rfl rfl (by unfold inRange; omega) ?_
      refine d1 76 449 10 rfl rfl rfl rfl rfl rfl trivial ?_
      refine d0 457 11 rfl rfl rfl rfl rfl (by first | trivial | omega) ?_
      refine de1 465 rfl (by kernel_rfl) ?_
      refine tn ?_
      refine W_seq ?_
      refine r1 ?_
      refine s1 77 465 1 rfl rfl rfl rfl rfl rfl trivial ?_
      refine s1 78 473 2 rfl rfl rfl rfl rfl rfl (by first | trivial | omega) ?_
      refine e1 481 rfl ?_
      refine keep [0, 4, 5, 6, 7, 14, 78] rfl ?_
      refine q1 rfl (fun hc22 => ?_) (fun hc22 => ?_)
      · skip
        try simp only [cs, ne_eq] at hc22
        refine rd0 rfl ?_
        refine d1 79 481 1 rfl rfl rfl rfl rfl rfl trivial ?_
        refine d1 80 489 2 rfl rfl rfl rfl rfl rfl (by first | trivial | omega) ?_
        refine d1 81 497 3 rfl rfl rfl rfl rfl rfl trivial ?_
        refine d1 82 505 4 rfl rfl rfl rfl rfl rfl trivial ?_
        refine dA 83 513 5 rfl rfl rfl rfl rfl rfl rfl rfl rfl (by unfold inRange; omega) ?_
        refine d1 84 521 6 rfl rfl rfl rfl rfl rfl (by first | trivial | omega) ?_
        refine d1 85 529 7 rfl rfl rfl rfl rfl rfl trivial ?_
        refine d1 86 537 8 rfl rfl rfl rfl rfl rfl (by omega) ?_
        refine val 86 (SV.i (M.getD (k - 1) default).t) rfl (by rw [show ((k : Int) - 1).toNat = k - 1 by omega]; show SV.i (M.getD (0 + (k - 1)) default).t = _; rw [Nat.zero_add]) ?_
        refine d1 87 545 9 rfl rfl rfl rfl rfl rfl trivial ?_
        refine d1 88 553 10 rfl rfl rfl rfl rfl rfl trivial ?_
        refine dA 89 561 11 rfl rfl rfl rfl rfl rfl rfl rfl rfl (by unfold inRange; omega) ?_
        refine d1 90 569 12 rfl rfl rfl rfl rfl rfl (by first | trivial | omega) ?_
        refine d1 91 577 13 rfl rfl rfl rfl rfl rfl trivial ?_
        refine d1 92 585 14 rfl rfl rfl rfl rfl rfl (by omega) ?_
        refine val 92 (SV.i (M.getD (k - 2) default).t) rfl (by rw [show ((k : Int) - 2).toNat = k - 2 by omega]; show SV.i (M.getD (0 + (k - 2)) default).t = _; rw [Nat.zero_add]) ?_
        refine dA 93 593 15 rfl rfl rfl rfl rfl rfl rfl rfl rfl (by unfold inRange; omega) ?_
        refine dA 94 601 16 rfl rfl rfl rfl rfl rfl rfl rfl rfl (by unfold inRange; omega) ?_
        refine d1 95 609 17 rfl rfl rfl rfl rfl rfl trivial ?_
        refine d0 617 18 rfl rfl rfl rfl rfl (by first | trivial | omega) ?_
        refine de1 625 rfl (by kernel_rfl) ?_
        refine tn ?_
        have hsm : (sampleOf (lstN M k) (zgt l n).x (zgt l ((zgt l n).at')).x) = ⟨(zgt l n).x + (M.getD (k - 1) default).t + ((M.getD (k - 1) default).t - (M.getD (k - 2) default).t), (zgt l ((zgt l n).at')).x + (M.getD (k - 1) default).v⟩ := (by exact sampleOf_2 M _ _ (by omega))
        refine chval 257 (Blk.cells 67 2 [SV.i (sampleOf (lstN M k) (zgt l n).x (zgt l ((zgt l n).at')).x).t, SV.i (sampleOf (lstN M k) (zgt l n).x (zgt l ((zgt l n).at')).x).v]) rfl (show Blk.cells 67 2 [SV.i ((zgt l n).x + (M.getD (k - 1) default).t + ((M.getD (k - 1) default).t - (M.getD (k - 2) default).t)), SV.i ((zgt l ((zgt l n).at')).x + (M.getD (k - 1) default).v)] = Blk.cells 67 2 [SV.i (sampleOf (lstN M k) (zgt l n).x (zgt l ((zgt l n).at')).x).t, SV.i (sampleOf (lstN M k) (zgt l n).x (zgt l ((zgt l n).at')).x).v] from by rw [hsm]) ?_
        refine r1 ?_
        refine s1 96 625 1 rfl rfl rfl rfl rfl rfl trivial ?_
        refine s1 97 633 2 rfl rfl rfl rfl rfl rfl (by first | trivial | omega) ?_
        refine s1 98 641 3 rfl rfl rfl rfl rfl rfl trivial ?_
        refine s1 99 649 4 rfl rfl rfl rfl rfl rfl ⟨Nat.le_refl _, trivial, (by show (M.length + 1) * 16 ≤ 140737488355328; omega), (by simp only [maxLen]; omega)⟩ ?_
        refine s1 6 657 5 rfl rfl rfl rfl rfl rfl trivial ?_
        refine e1 665 rfl ?_
        refine keep [0, 4, 5, 6, 7] rfl ?_
        refine rowsc 649 (M ++ [(sampleOf (lstN M k) (zgt l n).x (zgt l ((zgt l n).at')).x)]).length (smpF (M ++ [(sampleOf (lstN M k) (zgt l n).x (zgt l ((zgt l n).at')).x)])) rfl (by simp) (fun q c hq hc => cat_smp' (s := (sampleOf (lstN M k) (zgt l n).x (zgt l ((zgt l n).at')).x)) q c hq hc) ?_
        refine cval 6 (.sl 649 0 (M ++ [(sampleOf (lstN M k) (zgt l n).x (zgt l ((zgt l n).at')).x)]).length) rfl (by simp) ?_
        have hsf : sfault (M ++ [(sampleOf (lstN M k) (zgt l n).x (zgt l ((zgt l n).at')).x)]) = lfault (lstN M k) (sampleOf (lstN M k) (zgt l n).x (zgt l ((zgt l n).at')).x) := (by rw [sfault_snoc (by rw [hMl]; exact hf) (by omega), hMl])
        refine r1 ?_
        refine s1 100 665 1 rfl rfl rfl rfl rfl rfl trivial ?_
        refine c1 (sfault_own (M ++ [(sampleOf (lstN M k) (zgt l n).x (zgt l ((zgt l n).at')).x)]) (by simp; omega)) [649] [649] 101 673 2 rfl rfl rfl rfl rfl rfl rfl rfl Tryd.func36 rfl rfl rfl rfl ⟨rfl, trivial⟩ rfl rfl ?_
        refine s1 102 681 3 rfl rfl rfl rfl rfl rfl (by first | trivial | omega) ?_
        refine e1 689 rfl ?_
        refine keep [0, 4, 5, 6, 7, 102] rfl ?_
        refine q1 rfl (fun hc25 => ?_) (fun hc25 => ?_)
        · skip
          try simp only [cs, ne_eq] at hc25
          refine r1 ?_
          refine s1 2 689 1 rfl rfl rfl rfl rfl rfl trivial ?_
          refine s1 3 697 2 rfl rfl rfl rfl rfl rfl trivial ?_
          refine e1 705 rfl ?_
          refine keep [2, 3] rfl ?_
          refine W_ret ?_
          refine br ?_
          refine tr ?_
          refine tr ?_
          refine br ?_
          refine tr ?_
          rw [hsf] at hc25
          have he := dec_e3 hd hc12 hc15 hc25
          have hE : decE l = 4 := (by rw [decE_loop h0 hN (show k + 1 ≤ decN l by unfold decN; omega) (by rw [he]; decide), he])
          exact out2 2 3 (.d .nils) (SV.i (decE l)) (π := []) (hout := []) Tryd.results21 rfl rfl rfl (by rw [hE]; rfl) rfl rfl trivial (.inr ⟨by rw [hE]; first | decide | assumption, rfl, rfl⟩)
        try simp only [cs, ne_eq] at hc25
        rw [hsf] at hc25
        have hds := dec_e4 hd hc12 hc15 hc25
        refine W_skip ?_
        refine bn ?_
        refine tn ?_
        refine r0 ?_
        refine s1 29 689 1 rfl rfl rfl rfl rfl rfl trivial ?_
        refine sA 30 697 2 rfl rfl rfl rfl rfl rfl rfl rfl rfl (by unfold inRange; omega) ?_
        refine s1 7 705 3 rfl rfl rfl rfl rfl rfl trivial ?_
        refine e1 713 rfl ?_
        refine tn ?_
        exact again (((k + 1, (zgt l ((zgt l n).at')).at', M ++ [(sampleOf (lstN M k) (zgt l n).x (zgt l ((zgt l n).at')).x)]) : Nat × Nat × List Smp)) [649] (show ((k + 1) : Int) ≤ numB l 0 8 ∧ decS l (k + 1) = ⟨(M ++ [(sampleOf (lstN M k) (zgt l n).x (zgt l ((zgt l n).at')).x)]), ((zgt l ((zgt l n).at')).at'), 0⟩ ∧ (M ++ [(sampleOf (lstN M k) (zgt l n).x (zgt l ((zgt l n).at')).x)]).length = (k + 1) ∧ faultTo (M ++ [(sampleOf (lstN M k) (zgt l n).x (zgt l ((zgt l n).at')).x)]) (k + 1) = 0 ∧ ((zgt l ((zgt l n).at')).at') ≤ 8 * l.length from ⟨by omega, hds, by simp [hMl], (by rw [← hMl, faultTo_snoc M _ (by rw [hMl]; exact hf), hMl]; exact hc25), zgt_le l _ (zgt_le l n hn)⟩) (show (numB l 0 8).toNat - (k + 1) < (numB l 0 8).toNat - k from (by omega)) rfl ⟨rfl, rfl, rfl, rfl, rfl, trivial⟩ ⟨rfl, trivial⟩
      try simp only [cs, ne_eq] at hc22
      refine W_skip ?_
      refine tn ?_
      have hsm : (sampleOf (lstN M k) (zgt l n).x (zgt l ((zgt l n).at')).x) = ⟨(zgt l n).x + (M.getD (k - 1) default).t, (zgt l ((zgt l n).at')).x + (M.getD (k - 1) default).v⟩ := (by obtain rfl : k = 1 := (by omega); exact sampleOf_1 M _ _)
      refine chval 257 (Blk.cells 67 2 [SV.i (sampleOf (lstN M k) (zgt l n).x (zgt l ((zgt l n).at')).x).t, SV.i (sampleOf (lstN M k) (zgt l n).x (zgt l ((zgt l n).at')).x).v]) rfl (show Blk.cells 67 2 [SV.i ((zgt l n).x + (M.getD (k - 1) default).t), SV.i ((zgt l ((zgt l n).at')).x + (M.getD (k - 1) default).v)] = Blk.cells 67 2 [SV.i (sampleOf (lstN M k) (zgt l n).x (zgt l ((zgt l n).at')).x).t, SV.i (sampleOf (lstN M k) (zgt l n).x (zgt l ((zgt l n).at')).x).v] from by rw [hsm]) ?_
      refine r1 ?_
      refine s1 96 481 1 rfl rfl rfl rfl rfl rfl trivial ?_
      refine s1 97 489 2 rfl rfl rfl rfl rfl rfl (by first | trivial | omega) ?_
      refine s1 98 497 3 rfl rfl rfl rfl rfl rfl trivial ?_
      refine s1 99 505 4 rfl rfl rfl rfl rfl rfl ⟨Nat.le_refl _, trivial, (by show (M.length + 1) * 16 ≤ 140737488355328; omega), (by simp only [maxLen]; omega)⟩ ?_
      refine s1 6 513 5 rfl rfl rfl rfl rfl rfl trivial ?_
      refine e1 521 rfl ?_
      refine keep [0, 4, 5, 6, 7] rfl ?_
      refine rowsc 505 (M ++ [(sampleOf (lstN M k) (zgt l n).x (zgt l ((zgt l n).at')).x)]).length (smpF (M ++ [(sampleOf (lstN M k) (zgt l n).x (zgt l ((zgt l n).at')).x)])) rfl (by simp) (fun q c hq hc => cat_smp' (s := (sampleOf (lstN M k) (zgt l n).x (zgt l ((zgt l n).at')).x)) q c hq hc) ?_
      refine cval 6 (.sl 505 0 (M ++ [(sampleOf (lstN M k) (zgt l n).x (zgt l ((zgt l n).at')).x)]).length) rfl (by simp) ?_
      have hsf : sfault (M ++ [(sampleOf (lstN M k) (zgt l n).x (zgt l ((zgt l n).at')).x)]) = lfault (lstN M k) (sampleOf (lstN M k) (zgt l n).x (zgt l ((zgt l n).at')).x) := (by rw [sfault_snoc (by rw [hMl]; exact hf) (by omega), hMl])
      refine r1 ?_
      refine s1 100 521 1 rfl rfl rfl rfl rfl rfl trivial ?_
      refine c1 (sfault_own (M ++ [(sampleOf (lstN M k) (zgt l n).x (zgt l ((zgt l n).at')).x)]) (by simp; omega)) [505] [505] 101 529 2 rfl rfl rfl rfl rfl rfl rfl rfl Tryd.func36 rfl rfl rfl rfl ⟨rfl, trivial⟩ rfl rfl ?_
      refine s1 102 537 3 rfl rfl rfl rfl rfl rfl (by first | trivial | omega) ?_
      refine e1 545 rfl ?_
      refine keep [0, 4, 5, 6, 7, 102] rfl ?_
      refine q1 rfl (fun hc25 => ?_) (fun hc25 => ?_)
      · skip
        try simp only [cs, ne_eq] at hc25
        refine r1 ?_
        refine s1 2 545 1 rfl rfl rfl rfl rfl rfl trivial ?_
        refine s1 3 553 2 rfl rfl rfl rfl rfl rfl trivial ?_
        refine e1 561 rfl ?_
        refine keep [2, 3] rfl ?_
        refine W_ret ?_
        refine br ?_
        refine tr ?_
        refine tr ?_
        refine br ?_
        refine tr ?_
        rw [hsf] at hc25
        have he := dec_e3 hd hc12 hc15 hc25
        have hE : decE l = 4 := (by rw [decE_loop h0 hN (show k + 1 ≤ decN l by unfold decN; omega) (by rw [he]; decide), he])
        exact out2 2 3 (.d .nils) (SV.i (decE l)) (π := []) (hout := []) Tryd.results21 rfl rfl rfl (by rw [hE]; rfl) rfl rfl trivial (.inr ⟨by rw [hE]; first | decide | assumption, rfl, rfl⟩)
      try simp only [cs, ne_eq] at hc25
      rw [hsf] at hc25
      have hds := dec_e4 hd hc12 hc15 hc25
      refine W_skip ?_
      refine bn ?_
      refine tn ?_
      refine r0 ?_
      refine s1 29 545 1 rfl rfl rfl rfl rfl rfl trivial ?_
      refine sA 30 553 2 rfl rfl rfl rfl rfl rfl rfl rfl rfl (by unfold inRange; omega) ?_
      refine s1 7 561 3 rfl rfl rfl rfl rfl rfl trivial ?_
      refine e1 569 rfl ?_
      refine tn ?_
      exact again (((k + 1, (zgt l ((zgt l n).at')).at', M ++ [(sampleOf (lstN M k) (zgt l n).x (zgt l ((zgt l n).at')).x)]) : Nat × Nat × List Smp)) [505] (show ((k + 1) : Int) ≤ numB l 0 8 ∧ decS l (k + 1) = ⟨(M ++ [(sampleOf (lstN M k) (zgt l n).x (zgt l ((zgt l n).at')).x)]), ((zgt l ((zgt l n).at')).at'), 0⟩ ∧ (M ++ [(sampleOf (lstN M k) (zgt l n).x (zgt l ((zgt l n).at')).x)]).length = (k + 1) ∧ faultTo (M ++ [(sampleOf (lstN M k) (zgt l n).x (zgt l ((zgt l n).at')).x)]) (k + 1) = 0 ∧ ((zgt l ((zgt l n).at')).at') ≤ 8 * l.length from ⟨by omega, hds, by simp [hMl], (by rw [← hMl, faultTo_snoc M _ (by rw [hMl]; exact hf), hMl]; exact hc25), zgt_le l _ (zgt_le l n hn)⟩) (show (numB l 0 8).toNat - (k + 1) < (numB l 0 8).toNat - k from (by omega)) rfl ⟨rfl, rfl, rfl, rfl, rfl, trivial⟩ ⟨rfl, trivial⟩
    try simp only [cs, ne_eq] at hc19
    refine W_skip ?_
    refine tn ?_
    refine W_seq ?_
    refine r1 ?_
    refine s1 77 289 1 rfl rfl rfl rfl rfl rfl trivial ?_
    refine s1 78 297 2 rfl rfl rfl rfl rfl rfl (by first | trivial | omega) ?_
    refine e1 305 rfl ?_
    refine keep [0, 4, 5, 6, 7, 14, 78] rfl ?_
    refine q1 rfl (fun hc22 => ?_) (fun hc22 => ?_)
    · skip
      exfalso; simp at hc22; omega
    try simp only [cs, ne_eq] at hc22
    refine W_skip ?_
    refine tn ?_
    have hsm : (sampleOf (lstN M k) (zgt l n).x (zgt l ((zgt l n).at')).x) = ⟨(zgt l n).x, (zgt l ((zgt l n).at')).x⟩ := (by obtain rfl : k = 0 := (by omega); rfl)
    refine chval 257 (Blk.cells 67 2 [SV.i (sampleOf (lstN M k) (zgt l n).x (zgt l ((zgt l n).at')).x).t, SV.i (sampleOf (lstN M k) (zgt l n).x (zgt l ((zgt l n).at')).x).v]) rfl (show Blk.cells 67 2 [SV.i ((zgt l n).x), SV.i ((zgt l ((zgt l n).at')).x)] = Blk.cells 67 2 [SV.i (sampleOf (lstN M k) (zgt l n).x (zgt l ((zgt l n).at')).x).t, SV.i (sampleOf (lstN M k) (zgt l n).x (zgt l ((zgt l n).at')).x).v] from by rw [hsm]) ?_
    refine r1 ?_
    refine s1 96 305 1 rfl rfl rfl rfl rfl rfl trivial ?_
    refine s1 97 313 2 rfl rfl rfl rfl rfl rfl (by first | trivial | omega) ?_
    refine s1 98 321 3 rfl rfl rfl rfl rfl rfl trivial ?_
    refine s1 99 329 4 rfl rfl rfl rfl rfl rfl ⟨Nat.le_refl _, trivial, (by show (M.length + 1) * 16 ≤ 140737488355328; omega), (by simp only [maxLen]; omega)⟩ ?_
    refine s1 6 337 5 rfl rfl rfl rfl rfl rfl trivial ?_
    refine e1 345 rfl ?_
    refine keep [0, 4, 5, 6, 7] rfl ?_
    refine rowsc 329 (M ++ [(sampleOf (lstN M k) (zgt l n).x (zgt l ((zgt l n).at')).x)]).length (smpF (M ++ [(sampleOf (lstN M k) (zgt l n).x (zgt l ((zgt l n).at')).x)])) rfl (by simp) (fun q c hq hc => cat_smp' (s := (sampleOf (lstN M k) (zgt l n).x (zgt l ((zgt l n).at')).x)) q c hq hc) ?_
    refine cval 6 (.sl 329 0 (M ++ [(sampleOf (lstN M k) (zgt l n).x (zgt l ((zgt l n).at')).x)]).length) rfl (by simp) ?_
    have hsf : sfault (M ++ [(sampleOf (lstN M k) (zgt l n).x (zgt l ((zgt l n).at')).x)]) = lfault (lstN M k) (sampleOf (lstN M k) (zgt l n).x (zgt l ((zgt l n).at')).x) := (by rw [sfault_snoc (by rw [hMl]; exact hf) (by omega), hMl])
    refine r1 ?_
    refine s1 100 345 1 rfl rfl rfl rfl rfl rfl trivial ?_
    refine c1 (sfault_own (M ++ [(sampleOf (lstN M k) (zgt l n).x (zgt l ((zgt l n).at')).x)]) (by simp; omega)) [329] [329] 101 353 2 rfl rfl rfl rfl rfl rfl rfl rfl Tryd.func36 rfl rfl rfl rfl ⟨rfl, trivial⟩ rfl rfl ?_
    refine s1 102 361 3 rfl rfl rfl rfl rfl rfl (by first | trivial | omega) ?_
    refine e1 369 rfl ?_
    refine keep [0, 4, 5, 6, 7, 102] rfl ?_
    refine q1 rfl (fun hc25 => ?_) (fun hc25 => ?_)
    · skip
      try simp only [cs, ne_eq] at hc25
      refine r1 ?_
      refine s1 2 369 1 rfl rfl rfl rfl rfl rfl trivial ?_
      refine s1 3 377 2 rfl rfl rfl rfl rfl rfl trivial ?_
      refine e1 385 rfl ?_
      refine keep [2, 3] rfl ?_
      refine W_ret ?_
      refine br ?_
      refine tr ?_
      refine tr ?_
      refine br ?_
      refine tr ?_
      rw [hsf] at hc25
      have he := dec_e3 hd hc12 hc15 hc25
      have hE : decE l = 4 := (by rw [decE_loop h0 hN (show k + 1 ≤ decN l by unfold decN; omega) (by rw [he]; decide), he])
      exact out2 2 3 (.d .nils) (SV.i (decE l)) (π := []) (hout := []) Tryd.results21 rfl rfl rfl (by rw [hE]; rfl) rfl rfl trivial (.inr ⟨by rw [hE]; first | decide | assumption, rfl, rfl⟩)
    try simp only [cs, ne_eq] at hc25
    rw [hsf] at hc25
    have hds := dec_e4 hd hc12 hc15 hc25
    refine W_skip ?_
    refine bn ?_
    refine tn ?_
    refine r0 ?_
    refine s1 29 369 1 rfl rfl rfl rfl rfl rfl trivial ?_
    refine sA 30 377 2 rfl rfl rfl rfl rfl rfl rfl rfl rfl (by unfold inRange; omega) ?_
    refine s1 7 385 3 rfl rfl rfl rfl rfl rfl trivial ?_
    refine e1 393 rfl ?_
    refine tn ?_
    exact again (((k + 1, (zgt l ((zgt l n).at')).at', M ++ [(sampleOf (lstN M k) (zgt l n).x (zgt l ((zgt l n).at')).x)]) : Nat × Nat × List Smp)) [329] (show ((k + 1) : Int) ≤ numB l 0 8 ∧ decS l (k + 1) = ⟨(M ++ [(sampleOf (lstN M k) (zgt l n).x (zgt l ((zgt l n).at')).x)]), ((zgt l ((zgt l n).at')).at'), 0⟩ ∧ (M ++ [(sampleOf (lstN M k) (zgt l n).x (zgt l ((zgt l n).at')).x)]).length = (k + 1) ∧ faultTo (M ++ [(sampleOf (lstN M k) (zgt l n).x (zgt l ((zgt l n).at')).x)]) (k + 1) = 0 ∧ ((zgt l ((zgt l n).at')).at') ≤ 8 * l.length from ⟨by omega, hds, by simp [hMl], (by rw [← hMl, faultTo_snoc M _ (by rw [hMl]; exact hf), hMl]; exact hc25), zgt_le l _ (zgt_le l n hn)⟩) (show (numB l 0 8).toNat - (k + 1) < (numB l 0 8).toNat - k from (by omega)) rfl ⟨rfl, rfl, rfl, rfl, rfl, trivial⟩ ⟨rfl, trivial⟩
  try simp only [cs, ne_eq] at hc9
  refine W_exit ?_
  refine tx ?_
  refine tx ?_
  refine bx ?_
  refine tn ?_
  have hkN : k = decN l := (by unfold decN; omega)
  have hdN : decS l (decN l) = ⟨M, n, 0⟩ := (by rw [← hkN]; exact hd)
  have hend := decE_end h0 hN hdN
  have hfM : faultTo M M.length = 0 := (by rw [hMl]; exact hf)
  refine freeze 6 0 M.length rfl rfl (Nat.le_refl _) ?_
  refine r1 ?_
  refine s1 104 25 1 rfl rfl rfl rfl rfl rfl trivial ?_
  refine c1 (encoded_ok M (smpIn_good hfM (by omega)) (sfault_good hfM (by omega))) [] [33] 105 33 2 rfl rfl rfl rfl rfl rfl rfl rfl Tryd.func15 rfl rfl rfl rfl trivial rfl rfl ?_
  refine s1 103 41 3 rfl rfl rfl rfl rfl rfl trivial ?_
  refine s1 106 49 4 rfl rfl rfl rfl rfl rfl trivial ?_
  refine s1 107 57 5 rfl rfl rfl rfl rfl rfl trivial ?_
  refine s1 15 65 6 rfl rfl rfl rfl rfl rfl trivial ?_
  refine s1 16 73 7 rfl rfl rfl rfl rfl rfl trivial ?_
  refine e1 81 rfl ?_
  refine keep [0, 6, 15] rfl ?_
  refine W_seq ?_
  refine freeze 15 33 (encB M).length rfl rfl (Nat.le_refl _) ?_
  refine r1 ?_
  refine s1 108 81 1 rfl rfl rfl rfl rfl rfl trivial ?_
  refine s1 109 89 2 rfl rfl rfl rfl rfl rfl trivial ?_
  refine c1 (refSame_any (encB M) l (encB_bytes (sfault_good hfM (by omega)) (by omega)) hlb) [] [] 110 97 3 rfl rfl rfl rfl rfl rfl rfl rfl Tryd.func51 rfl rfl rfl rfl trivial rfl rfl ?_
  refine s1 111 105 4 rfl rfl rfl rfl rfl rfl trivial ?_
  refine e1 113 rfl ?_
  refine keep [6, 111] rfl ?_
  refine q1 rfl (fun hc28 => ?_) (fun hc28 => ?_)
  · skip
    try simp only [cs, ne_eq] at hc28
    refine r1 ?_
    refine s1 2 113 1 rfl rfl rfl rfl rfl rfl trivial ?_
    refine s1 3 121 2 rfl rfl rfl rfl rfl rfl trivial ?_
    refine e1 129 rfl ?_
    refine keep [2, 3] rfl ?_
    refine W_ret ?_
    refine tr ?_
    have hE : decE l = 4 := (by rw [hend, if_neg (fun h => by have := (enc_iff hlb h0 hdN).2 h; simp [this] at hc28)])
    exact out2 2 3 (.d .nils) (SV.i (decE l)) (π := []) (hout := []) Tryd.results21 rfl rfl rfl (by rw [hE]; rfl) rfl rfl trivial (.inr ⟨by rw [hE]; first | decide | assumption, rfl, rfl⟩)
  try simp only [cs, ne_eq] at hc28
  refine W_skip ?_
  refine tn ?_
  refine r1 ?_
  refine s1 112 113 1 rfl rfl rfl rfl rfl rfl trivial ?_
  refine s1 2 121 2 rfl rfl rfl rfl rfl rfl trivial ?_
  refine s1 3 129 3 rfl rfl rfl rfl rfl rfl trivial ?_
  refine e1 137 rfl ?_
  refine keep [2, 3] rfl ?_
  refine W_ret ?_
  have hE : decE l = 0 := (by rw [hend, if_pos ((enc_iff hlb h0 hdN).1 (by simpa using hc28))])
  have hMM : decM l = M := (by unfold decM; rw [hdN])
  exact out2 2 3 (smpV (decM l)) (SV.i 0) (π := []) (hout := []) Tryd.results21 rfl rfl (by rw [hMM]; rfl) rfl rfl rfl trivial (.inl ⟨hE, rfl, rfl⟩)
end Go.Proofs.YtpdojmebloekgaaDoor.Nice.Co
