/- What grows, and what was between: the program and the document. -/
import Derived.Test.YtiedndnegmbkiaaDoorChunkRef
namespace Go.Proofs.YtiedndnegmbkiaaDoor.Nice
open Go
set_option linter.unusedVariables false
set_option linter.unusedSimpArgs false
set_option maxRecDepth 100000
set_option maxHeartbeats 4000000

def nearB (x : Int) : Bool := decide (-16777216 ≤ x) && decide (x ≤ 16777216)
def nearS (s : Smp) : Bool := nearB s.t && nearB s.v
def rfault (l : List Smp) : Int := if sfault l = 0 then (if l.all nearS = true then 0 else 11) else sfault l
theorem sf_parts {l : List Smp} (hz : sfault l = 0) : l.length ≤ 120 ∧ faultTo l l.length = 0 := by
  unfold sfault at hz
  by_cases h : 120 < l.length
  · rw [if_pos h] at hz; cases hz
  · rw [if_neg h] at hz; exact ⟨by omega, hz⟩
theorem near_not {l : List Smp} {n : Nat} (h : n < l.length) (hc : nearS (l.getD n default) = false) : l.all nearS = false := by
  rw [show l.getD n default = l[n] from by simp [List.getD, h]] at hc
  rw [List.all_eq_false]; exact ⟨_, List.getElem_mem h, by rw [hc]; decide⟩
theorem near_all {l : List Smp} (h : ∀ j, j < l.length → nearS (l.getD j default) = true) : l.all nearS = true := by
  rw [List.all_eq_true]
  intro x hx
  obtain ⟨j, hj, rfl⟩ := List.mem_iff_getElem.1 hx
  have := h j hj; rwa [show l.getD j default = l[j] from by simp [List.getD, hj]] at this
structure Fine (l : List Smp) : Prop where
  len : l.length ≤ 120
  near : ∀ j, j < l.length → (-16777216 ≤ (l.getD j default).t ∧ (l.getD j default).t ≤ 16777216) ∧ (-16777216 ≤ (l.getD j default).v ∧ (l.getD j default).v ≤ 16777216)
  asc : ∀ j, 0 < j → j < l.length → (l.getD (j - 1) default).t < (l.getD j default).t
theorem fine_of {l : List Smp} (h : rfault l = 0) : Fine l := by
  unfold rfault at h
  split at h
  · next hz =>
    split at h
    · next ha =>
      obtain ⟨h1, h2⟩ := sf_parts hz
      refine ⟨h1, fun j hj => ?_, fun j h0 hj => ?_⟩
      · have := List.all_eq_true.1 ha _ (List.getElem_mem hj)
        rw [show l.getD j default = l[j] from by simp [List.getD, hj]]
        simp [nearS, nearB] at this; omega
      · have := (smp_at h2 hj).2.2 h0
        rw [(lstN_t l h0).1] at this; exact this
    · cases h
  · next hz => exact absurd h hz
theorem fine_lt {l : List Smp} (h : Fine l) : ∀ (n i : Nat), i < n → n < l.length → (l.getD i default).t < (l.getD n default).t
  | 0, i, hi, _ => by omega
  | n + 1, i, hi, hn => by
    have h1 := h.asc (n + 1) (by omega) hn
    rw [Nat.add_sub_cancel] at h1
    rcases Nat.lt_or_ge i n with hlt | hge
    · have := fine_lt h n i hlt (by omega); omega
    · obtain rfl : i = n := by omega
      exact h1
theorem mul_bd {x y a b : Int} (hx : -a ≤ x ∧ x ≤ a) (hy : -b ≤ y ∧ y ≤ b) : -(a * b) ≤ x * y ∧ x * y ≤ a * b := by
  obtain ⟨A, rfl⟩ := Int.eq_ofNat_of_zero_le (show 0 ≤ a by omega)
  obtain ⟨B, rfl⟩ := Int.eq_ofNat_of_zero_le (show 0 ≤ b by omega)
  have h1 : x.natAbs ≤ A := by omega
  have h2 : y.natAbs ≤ B := by omega
  have h3 := Nat.mul_le_mul h1 h2
  rw [← Int.natAbs_mul] at h3
  have h4 : ((A * B : Nat) : Int) = (A : Int) * (B : Int) := by simp
  omega
def riseS (n : Int) (a b : Smp) : Int := if a.v ≤ b.v then n + b.v - a.v else n + b.v
def riseN (l : List Smp) : Nat → Int
  | 0 => 0
  | i + 1 => riseS (riseN l i) (l.getD i default) (l.getD (i + 1) default)
theorem rise_bd {l : List Smp} (h : Fine l) : ∀ i, i + 1 ≤ l.length ∨ i = 0 → -(i * 33554432) ≤ riseN l i ∧ riseN l i ≤ i * 33554432
  | 0, _ => by simp [riseN]
  | i + 1, hi => by
    have h1 := rise_bd h i (by omega)
    have h2 := (h.near i (by omega)).2
    have h3 := (h.near (i + 1) (by omega)).2
    show _ ≤ riseS _ _ _ ∧ riseS _ _ _ ≤ _
    unfold riseS
    split <;> omega
def meanS (n : Int) (a b : Smp) : Int := n + a.v * (b.t - a.t)
def meanN (l : List Smp) : Nat → Int
  | 0 => 0
  | i + 1 => meanS (meanN l i) (l.getD i default) (l.getD (i + 1) default)
theorem mean_one {a b : Smp} (ha : (-16777216 ≤ a.t ∧ a.t ≤ 16777216) ∧ (-16777216 ≤ a.v ∧ a.v ≤ 16777216)) (hb : -16777216 ≤ b.t ∧ b.t ≤ 16777216) : -562949953421312 ≤ a.v * (b.t - a.t) ∧ a.v * (b.t - a.t) ≤ 562949953421312 :=
  mul_bd (a := 16777216) (b := 33554432) ha.2 (by omega)
theorem mean_bd {l : List Smp} (h : Fine l) : ∀ i, i + 1 ≤ l.length ∨ i = 0 → -(i * 562949953421312) ≤ meanN l i ∧ meanN l i ≤ i * 562949953421312
  | 0, _ => by simp [meanN]
  | i + 1, hi => by
    have h1 := mean_bd h i (by omega)
    have h2 := mean_one (h.near i (by omega)) (h.near (i + 1) (by omega)).1
    show _ ≤ meanS _ _ _ ∧ meanS _ _ _ ≤ _
    unfold meanS
    omega
def riseR (l : List Smp) : Int := if rfault l = 0 then riseN l (l.length - 1) else 0
def meanR (l : List Smp) : Int := if rfault l = 0 ∧ 2 ≤ l.length then meanN l (l.length - 1) else 0
def meanT (l : List Smp) : Int := if rfault l = 0 ∧ 2 ≤ l.length then (l.getD (l.length - 1) default).t - (l.getD 0 default).t else 0
def meanE (l : List Smp) : Int := if rfault l = 0 then (if 2 ≤ l.length then 0 else 6) else rfault l
def idx (l : List Smp) (time : Int) : Nat := l.findIdx fun s => decide (time ≤ s.t)
theorem idx_le (l : List Smp) (time : Int) : idx l time ≤ l.length := List.findIdx_le_length
theorem idx_below {l : List Smp} {time : Int} {k : Nat} (h : k < idx l time) : (l.getD k default).t < time := by
  have hk : k < l.length := Nat.lt_of_lt_of_le h (idx_le l time)
  have := List.not_of_lt_findIdx h
  rw [show l.getD k default = l[k] from by simp [List.getD, hk]]
  simp at this; omega
theorem idx_at {l : List Smp} {time : Int} (h : idx l time < l.length) : time ≤ (l.getD (idx l time) default).t := by
  have := List.findIdx_getElem (w := h)
  rw [show l.getD (idx l time) default = l[idx l time] from by simp [List.getD, h]]
  exact of_decide_eq_true this
theorem idx_eq {l : List Smp} {time : Int} {r : Nat} (h0 : r ≤ l.length) (h1 : ∀ k, k < r → (l.getD k default).t < time) (h2 : r < l.length → time ≤ (l.getD r default).t) : idx l time = r := by
  rcases Nat.lt_trichotomy (idx l time) r with h | h | h
  · have a := h1 _ h
    have b := idx_at (show idx l time < l.length by omega)
    omega
  · exact h
  · have a := idx_below h
    have b := h2 (by have := idx_le l time; omega)
    omega
def atV (l : List Smp) (time : Int) : Int × Int :=
  if rfault l = 0 then
    if idx l time < l.length ∧ (l.getD (idx l time) default).t = time then ((l.getD (idx l time) default).v, 0)
    else if idx l time = 0 ∨ idx l time = l.length then (0, 6)
    else ((l.getD (idx l time - 1) default).v + ((l.getD (idx l time) default).v - (l.getD (idx l time - 1) default).v) * (time - (l.getD (idx l time - 1) default).t) / ((l.getD (idx l time) default).t - (l.getD (idx l time - 1) default).t), 0)
  else (0, rfault l)
theorem u_half {a : Int} (h0 : 0 ≤ a) (h1 : a ≤ 1000) : IntKind.i64.wrap ((IntKind.u64.wrap a).fdiv (2 ^ (min (1 : Int).toNat 64))) = a / 2 := by
  have e : (2 : Int) ^ (min (1 : Int).toNat 64) = 2 := rfl
  have u : IntKind.u64.wrap a = a := by simp [IntKind.wrap, IntKind.bits, IntKind.signed]; omega
  rw [e, u, Int.fdiv_eq_ediv_of_nonneg _ (by decide)]
  exact wrap_in ⟨by omega, by omega⟩
theorem floor_of {n d : Int} (hd : 0 < d) (h : n.tmod d < 0) : n.tdiv d - 1 = n / d := by
  have h1 := Int.mul_tdiv_add_tmod n d
  have h2 : -d < n.tmod d := by
    have := Int.tmod_lt_of_pos (-n) hd
    rw [Int.neg_tmod] at this
    omega
  have h3 : d * (n.tdiv d - 1) + (n.tmod d + d) = n := by rw [Int.mul_sub, Int.mul_one]; omega
  have h4 : 0 ≤ n.tmod d + d ∧ n.tmod d + d < d := by omega
  clear h1 h2 h
  symm
  generalize n.tdiv d - 1 = q at *
  generalize n.tmod d + d = m at *
  subst h3
  rw [Int.add_comm, Int.add_mul_ediv_left _ _ (by omega), Int.ediv_eq_zero_of_lt (by omega) (by omega)]; omega
theorem floor_of' {n d : Int} (hd : 0 < d) (h : 0 ≤ n.tmod d) : n.tdiv d = n / d := by
  have h1 := Int.mul_tdiv_add_tmod n d
  have h2 : n.tmod d < d := Int.tmod_lt_of_pos n hd
  have h4 : 0 ≤ n.tmod d ∧ n.tmod d < d := by omega
  clear h2 h
  symm
  generalize n.tdiv d = q at *
  generalize n.tmod d = m at *
  subst h1
  rw [Int.add_comm, Int.add_mul_ediv_left _ _ (by omega), Int.ediv_eq_zero_of_lt (by omega) (by omega)]; omega
theorem quo_bd {n d : Int} (hd : 0 < d) (h : -1125899906842624 ≤ n ∧ n ≤ 1125899906842624) : -1125899906842625 ≤ n / d ∧ n / d ≤ 1125899906842624 := by
  constructor
  · apply Int.le_ediv_of_mul_le hd
    omega
  · rcases Int.le_total 0 n with h0 | h0
    · have := Int.ediv_le_self d h0; omega
    · have : n / d ≤ 0 := by
        have := Int.ediv_le_ediv hd h0
        simpa using this
      omega
theorem tquo_in {n d : Int} (hd : 0 < d) (h : -1125899906842624 ≤ n ∧ n ≤ 1125899906842624) : IntKind.i64.wrap (n.tdiv d) = n.tdiv d := by
  have hb := quo_bd hd h
  refine wrap_in ?_
  unfold inRange
  by_cases hm : n.tmod d < 0
  · have := floor_of hd hm; omega
  · have := floor_of' hd (Int.not_lt.1 hm); omega

theorem near_any (x : Int) : Spec Tryd.prog GC 65 [SV.i x] [] (fun r ho => r = SV.b (nearB x) ∧ ho = []) := by
  refine start 9 0 Tryd.func65 rfl rfl rfl rfl ?_
  refine r1 ?_
  refine s1 2 0 1 rfl rfl rfl rfl rfl rfl trivial ?_
  refine e1 8 rfl ?_
  refine keep [0] rfl ?_
  refine r1 ?_
  refine s1 3 8 1 rfl rfl rfl rfl rfl rfl trivial ?_
  refine s1 4 16 2 rfl rfl rfl rfl rfl rfl (by first | trivial | omega | (simp only [List.length_map, List.length_append, List.length_cons, List.length_nil] at *; omega)) ?_
  refine s1 5 24 3 rfl rfl rfl rfl rfl rfl trivial ?_
  refine ask 5 rfl (fun hg1_5 => ?_) (fun hg1_5 => ?_)
  · skip
    try simp only [decide_eq_true_eq, decide_eq_false_iff_not, Bool.not_eq_true', Bool.not_eq_false', beq_iff_eq, bne_iff_ne, beq_eq_false_iff_ne, Bool.and_eq_true, Bool.or_eq_true, Bool.and_eq_false_iff, Bool.or_eq_false_iff, ge_iff_le, gt_iff_lt, Int.not_lt, Int.not_le, ne_eq, Decidable.not_not, bne_eq_false_iff_eq] at hg1_5
    refine g1 2 true 5 6 4 rfl rfl rfl rfl rfl ?_
    refine s1 6 32 4 rfl rfl rfl rfl rfl rfl trivial ?_
    refine g1 2 true 5 7 5 rfl rfl rfl rfl rfl ?_
    refine s1 7 40 5 rfl rfl rfl rfl rfl rfl (by first | trivial | omega | (simp only [List.length_map, List.length_append, List.length_cons, List.length_nil] at *; omega)) ?_
    refine s1 8 48 6 rfl rfl rfl rfl rfl rfl trivial ?_
    refine s1 2 56 7 rfl rfl rfl rfl rfl rfl trivial ?_
    refine e1 64 rfl ?_
    refine keep [2] rfl ?_
    refine W_ret ?_
    exact out1 2 (SV.b (nearB x)) (π := []) (hout := []) Tryd.results65 rfl (by show SV.b _ = SV.b _; refine congrArg SV.b (Bool.eq_iff_iff.2 ?_); unfold nearB; simp at *; try omega) rfl rfl trivial ⟨rfl, rfl⟩
  · skip
    try simp only [decide_eq_true_eq, decide_eq_false_iff_not, Bool.not_eq_true', Bool.not_eq_false', beq_iff_eq, bne_iff_ne, beq_eq_false_iff_ne, Bool.and_eq_true, Bool.or_eq_true, Bool.and_eq_false_iff, Bool.or_eq_false_iff, ge_iff_le, gt_iff_lt, Int.not_lt, Int.not_le, ne_eq, Decidable.not_not, bne_eq_false_iff_eq] at hg1_5
    refine g0 2 true 5 6 4 rfl rfl rfl rfl rfl rfl ?_
    refine g0 2 true 5 7 5 rfl rfl rfl rfl rfl rfl ?_
    refine s1 8 48 6 rfl rfl rfl rfl rfl rfl trivial ?_
    refine s1 2 56 7 rfl rfl rfl rfl rfl rfl trivial ?_
    refine e1 64 rfl ?_
    refine keep [2] rfl ?_
    refine W_ret ?_
    exact out1 2 (SV.b (nearB x)) (π := []) (hout := []) Tryd.results65 rfl (by show SV.b _ = SV.b _; refine congrArg SV.b (Bool.eq_iff_iff.2 ?_); unfold nearB; simp at *; try omega) rfl rfl trivial ⟨rfl, rfl⟩

theorem rfault_ok (l : List Smp) (hin : SmpIn l) (hz : sfault l = 0) : Spec Tryd.prog GC 50 [smpV l] [] (fun r ho => r = SV.i (rfault l) ∧ ho = []) := by
  refine start 32 0 Tryd.func50 rfl rfl rfl rfl ?_
  refine r1 ?_
  refine s1 2 0 1 rfl rfl rfl rfl rfl rfl trivial ?_
  refine e1 8 rfl ?_
  refine keep [0] rfl ?_
  refine W_seq ?_
  refine r1 ?_
  refine s1 8 8 1 rfl rfl rfl rfl rfl rfl trivial ?_
  refine c1 (encode_ok l hin hz) [] [16] 9 16 2 rfl rfl rfl rfl rfl rfl rfl rfl Tryd.func10 rfl rfl rfl rfl trivial rfl rfl ?_
  refine s1 7 24 3 rfl rfl rfl rfl rfl rfl trivial ?_
  refine s1 10 32 4 rfl rfl rfl rfl rfl rfl trivial ?_
  refine s1 11 40 5 rfl rfl rfl rfl rfl rfl trivial ?_
  refine s1 3 48 6 rfl rfl rfl rfl rfl rfl trivial ?_
  refine s1 4 56 7 rfl rfl rfl rfl rfl rfl trivial ?_
  refine e1 64 rfl ?_
  refine keep [0, 4] rfl ?_
  refine r1 ?_
  refine s1 12 64 1 rfl rfl rfl rfl rfl rfl trivial ?_
  refine s1 13 72 2 rfl rfl rfl rfl rfl rfl (by first | trivial | omega | (simp only [List.length_map, List.length_append, List.length_cons, List.length_nil] at *; omega)) ?_
  refine e1 80 rfl ?_
  refine keep [0, 4, 13] rfl ?_
  refine q1 rfl (fun hc2 => ?_) (fun hc2 => ?_)
  · skip
    exact absurd hc2 (by decide)
  · skip
    try simp only [decide_eq_true_eq, decide_eq_false_iff_not, Bool.not_eq_true', Bool.not_eq_false', beq_iff_eq, bne_iff_ne, beq_eq_false_iff_ne, Bool.and_eq_true, Bool.or_eq_true, Bool.and_eq_false_iff, Bool.or_eq_false_iff, ge_iff_le, gt_iff_lt, Int.not_lt, Int.not_le, ne_eq, Decidable.not_not, bne_eq_false_iff_eq] at hc2
    refine W_skip ?_
    refine tn ?_
    refine W_seq ?_
    refine r1 ?_
    refine s1 15 80 1 rfl rfl rfl rfl rfl rfl trivial ?_
    refine s1 16 88 2 rfl rfl rfl rfl rfl rfl (by first | trivial | omega | (simp only [List.length_map, List.length_append, List.length_cons, List.length_nil] at *; omega)) ?_
    refine s1 17 96 3 rfl rfl rfl rfl rfl rfl trivial ?_
    refine e1 104 rfl ?_
    refine keep [15, 16, 17] rfl ?_
    refine W_block ?_
    have hl := (sf_parts hz).1
    refine loop (α := Nat) 0 (fun n => [(15, smpV l), (16, SV.i l.length), (17, SV.i (n))]) (fun n => []) (fun n => (n) ≤ l.length ∧ ∀ j, j < (n) → nearS (l.getD j default) = true) (fun n => l.length - (n)) (((0) : Nat)) [] (fun _ => rfl) (show (0) ≤ l.length ∧ ∀ j, j < (0) → nearS (l.getD j default) = true from ⟨Nat.zero_le _, fun j hj => by omega⟩) rfl ⟨rfl, rfl, rfl, trivial⟩ trivial (fun n hx => ?_)
    show W _ _ _ ⟨tOf [(15, smpV l), (16, SV.i l.length), (17, SV.i n)], hOf [], 0⟩
    have hx : n ≤ l.length ∧ ∀ j, j < n → nearS (l.getD j default) = true := hx
    obtain ⟨hn, hno⟩ := hx
    refine r1 ?_
    refine s1 18 0 1 rfl rfl rfl rfl rfl rfl (by first | trivial | omega | (simp only [List.length_map, List.length_append, List.length_cons, List.length_nil] at *; omega)) ?_
    refine e1 8 rfl ?_
    refine keep [15, 16, 17, 18] rfl ?_
    refine W_seq ?_
    refine q1 rfl (fun hc5 => ?_) (fun hc5 => ?_)
    · skip
      try simp only [decide_eq_true_eq, decide_eq_false_iff_not, Bool.not_eq_true', Bool.not_eq_false', beq_iff_eq, bne_iff_ne, beq_eq_false_iff_ne, Bool.and_eq_true, Bool.or_eq_true, Bool.and_eq_false_iff, Bool.or_eq_false_iff, ge_iff_le, gt_iff_lt, Int.not_lt, Int.not_le, ne_eq, Decidable.not_not, bne_eq_false_iff_eq] at hc5
      refine W_skip ?_
      refine tn ?_
      refine W_seq ?_
      refine W_block ?_
      refine r1 ?_
      refine s1 19 8 1 rfl rfl rfl rfl rfl rfl (by first | trivial | omega | (simp only [List.length_map, List.length_append, List.length_cons, List.length_nil] at *; omega)) ?_
      refine s1 20 16 2 rfl rfl rfl rfl rfl rfl (by first | trivial | omega | (simp only [List.length_map, List.length_append, List.length_cons, List.length_nil] at *; omega)) ?_
      refine val 20 (smpS (l.getD n default)) rfl (by first | rfl | (simp only [Nat.zero_add, Int.toNat_natCast]; rfl)) ?_
      refine s1 6 24 3 rfl rfl rfl rfl rfl rfl trivial ?_
      refine s0 32 4 rfl rfl rfl rfl rfl (by first | trivial | omega | (simp only [List.length_map, List.length_append, List.length_cons, List.length_nil] at *; omega)) ?_
      refine e1 40 rfl ?_
      refine keep [6, 15, 16, 17] rfl ?_
      refine r1 ?_
      refine s1 21 40 1 rfl rfl rfl rfl rfl rfl trivial ?_
      refine s1 22 48 2 rfl rfl rfl rfl rfl rfl (by first | trivial | omega | (simp only [List.length_map, List.length_append, List.length_cons, List.length_nil] at *; omega)) ?_
      refine c1 (near_any (l.getD n default).t) [] [] 23 56 3 rfl rfl rfl rfl rfl rfl rfl rfl Tryd.func65 rfl rfl rfl rfl trivial rfl rfl ?_
      refine s1 24 64 4 rfl rfl rfl rfl rfl rfl trivial ?_
      refine s1 25 72 5 rfl rfl rfl rfl rfl rfl trivial ?_
      refine ask 25 rfl (fun hg7_25 => ?_) (fun hg7_25 => ?_)
      · skip
        try simp only [decide_eq_true_eq, decide_eq_false_iff_not, Bool.not_eq_true', Bool.not_eq_false', beq_iff_eq, bne_iff_ne, beq_eq_false_iff_ne, Bool.and_eq_true, Bool.or_eq_true, Bool.and_eq_false_iff, Bool.or_eq_false_iff, ge_iff_le, gt_iff_lt, Int.not_lt, Int.not_le, ne_eq, Decidable.not_not, bne_eq_false_iff_eq] at hg7_25
        refine g0 4 false 25 26 6 rfl rfl rfl rfl rfl rfl ?_
        refine g0 4 false 25 27 7 rfl rfl rfl rfl rfl rfl ?_
        refine g0 4 false 25 28 8 rfl rfl rfl rfl rfl rfl ?_
        refine g0 4 false 25 29 9 rfl rfl rfl rfl rfl rfl ?_
        refine s1 30 112 10 rfl rfl rfl rfl rfl rfl trivial ?_
        refine e1 120 rfl ?_
        refine keep [15, 16, 17, 30] rfl ?_
        refine q1 rfl (fun hc7 => ?_) (fun hc7 => ?_)
        · skip
          try simp only [decide_eq_true_eq, decide_eq_false_iff_not, Bool.not_eq_true', Bool.not_eq_false', beq_iff_eq, bne_iff_ne, beq_eq_false_iff_ne, Bool.and_eq_true, Bool.or_eq_true, Bool.and_eq_false_iff, Bool.or_eq_false_iff, ge_iff_le, gt_iff_lt, Int.not_lt, Int.not_le, ne_eq, Decidable.not_not, bne_eq_false_iff_eq] at hc7
          refine r1 ?_
          refine s1 2 120 1 rfl rfl rfl rfl rfl rfl trivial ?_
          refine e1 128 rfl ?_
          refine keep [2] rfl ?_
          refine W_ret ?_
          refine br ?_
          refine tr ?_
          refine tr ?_
          refine br ?_
          refine tr ?_
          exact out1 2 (SV.i (rfault l)) (π := []) (hout := []) Tryd.results50 rfl (by unfold rfault; rw [if_pos hz, if_neg (by rw [near_not (n := n) (by omega) (by unfold nearS; simp_all)]; decide)]; try rfl) rfl rfl trivial ⟨rfl, rfl⟩
        · skip
          exact absurd hc7 (by decide)
      · skip
        try simp only [decide_eq_true_eq, decide_eq_false_iff_not, Bool.not_eq_true', Bool.not_eq_false', beq_iff_eq, bne_iff_ne, beq_eq_false_iff_ne, Bool.and_eq_true, Bool.or_eq_true, Bool.and_eq_false_iff, Bool.or_eq_false_iff, ge_iff_le, gt_iff_lt, Int.not_lt, Int.not_le, ne_eq, Decidable.not_not, bne_eq_false_iff_eq] at hg7_25
        refine g1 4 false 25 26 6 rfl rfl rfl rfl rfl ?_
        refine s1 26 80 6 rfl rfl rfl rfl rfl rfl trivial ?_
        refine g1 4 false 25 27 7 rfl rfl rfl rfl rfl ?_
        refine s1 27 88 7 rfl rfl rfl rfl rfl rfl (by first | trivial | omega | (simp only [List.length_map, List.length_append, List.length_cons, List.length_nil] at *; omega)) ?_
        refine g1 4 false 25 28 8 rfl rfl rfl rfl rfl ?_
        refine c1 (near_any (l.getD n default).v) [] [] 28 96 8 rfl rfl rfl rfl rfl rfl rfl rfl Tryd.func65 rfl rfl rfl rfl trivial rfl rfl ?_
        refine g1 4 false 25 29 9 rfl rfl rfl rfl rfl ?_
        refine s1 29 104 9 rfl rfl rfl rfl rfl rfl trivial ?_
        refine s1 30 112 10 rfl rfl rfl rfl rfl rfl trivial ?_
        refine e1 120 rfl ?_
        refine keep [15, 16, 17, 30] rfl ?_
        refine q1 rfl (fun hc7 => ?_) (fun hc7 => ?_)
        · skip
          try simp only [decide_eq_true_eq, decide_eq_false_iff_not, Bool.not_eq_true', Bool.not_eq_false', beq_iff_eq, bne_iff_ne, beq_eq_false_iff_ne, Bool.and_eq_true, Bool.or_eq_true, Bool.and_eq_false_iff, Bool.or_eq_false_iff, ge_iff_le, gt_iff_lt, Int.not_lt, Int.not_le, ne_eq, Decidable.not_not, bne_eq_false_iff_eq] at hc7
          refine r1 ?_
          refine s1 2 120 1 rfl rfl rfl rfl rfl rfl trivial ?_
          refine e1 128 rfl ?_
          refine keep [2] rfl ?_
          refine W_ret ?_
          refine br ?_
          refine tr ?_
          refine tr ?_
          refine br ?_
          refine tr ?_
          exact out1 2 (SV.i (rfault l)) (π := []) (hout := []) Tryd.results50 rfl (by unfold rfault; rw [if_pos hz, if_neg (by rw [near_not (n := n) (by omega) (by unfold nearS; simp_all)]; decide)]; try rfl) rfl rfl trivial ⟨rfl, rfl⟩
        · skip
          try simp only [decide_eq_true_eq, decide_eq_false_iff_not, Bool.not_eq_true', Bool.not_eq_false', beq_iff_eq, bne_iff_ne, beq_eq_false_iff_ne, Bool.and_eq_true, Bool.or_eq_true, Bool.and_eq_false_iff, Bool.or_eq_false_iff, ge_iff_le, gt_iff_lt, Int.not_lt, Int.not_le, ne_eq, Decidable.not_not, bne_eq_false_iff_eq] at hc7
          refine W_skip ?_
          refine bn ?_
          refine tn ?_
          refine r0 ?_
          refine sA 31 120 1 rfl rfl rfl rfl rfl rfl rfl rfl rfl (by unfold inRange; omega) ?_
          refine s1 17 128 2 rfl rfl rfl rfl rfl rfl trivial ?_
          refine e1 136 rfl ?_
          refine tn ?_
          exact again ((n + 1 : Nat)) [] (show (n + 1) ≤ l.length ∧ ∀ j, j < (n + 1) → nearS (l.getD j default) = true from ⟨by omega, fun j hj => by by_cases e : j = n; (subst e; clear hno; unfold nearS; simp_all); exact hno j (by omega)⟩) (show l.length - (n + 1) < l.length - n from (by omega)) rfl ⟨rfl, rfl, rfl, trivial⟩ trivial
    · skip
      try simp only [decide_eq_true_eq, decide_eq_false_iff_not, Bool.not_eq_true', Bool.not_eq_false', beq_iff_eq, bne_iff_ne, beq_eq_false_iff_ne, Bool.and_eq_true, Bool.or_eq_true, Bool.and_eq_false_iff, Bool.or_eq_false_iff, ge_iff_le, gt_iff_lt, Int.not_lt, Int.not_le, ne_eq, Decidable.not_not, bne_eq_false_iff_eq] at hc5
      refine W_exit ?_
      refine tx ?_
      refine tx ?_
      refine bx ?_
      refine tn ?_
      refine r1 ?_
      refine s1 2 8 1 rfl rfl rfl rfl rfl rfl trivial ?_
      refine e1 16 rfl ?_
      refine keep [2] rfl ?_
      refine W_ret ?_
      exact out1 2 (SV.i (rfault l)) (π := []) (hout := []) Tryd.results50 rfl (by unfold rfault; rw [if_pos hz, if_pos (near_all (fun j hj => hno j (by omega)))]; try rfl) rfl rfl trivial ⟨rfl, rfl⟩

theorem rfault_bad (l : List Smp) (hin : SmpIn l) (hz : sfault l ≠ 0) : Spec Tryd.prog GC 50 [smpV l] [] (fun r ho => r = SV.i (rfault l) ∧ ho = []) := by
  refine start 32 0 Tryd.func50 rfl rfl rfl rfl ?_
  refine r1 ?_
  refine s1 2 0 1 rfl rfl rfl rfl rfl rfl trivial ?_
  refine e1 8 rfl ?_
  refine keep [0] rfl ?_
  refine W_seq ?_
  refine r1 ?_
  refine s1 8 8 1 rfl rfl rfl rfl rfl rfl trivial ?_
  refine c1 (encode_bad l hin hz) [] [] 9 16 2 rfl rfl rfl rfl rfl rfl rfl rfl Tryd.func10 rfl rfl rfl rfl trivial rfl rfl ?_
  refine s1 7 24 3 rfl rfl rfl rfl rfl rfl trivial ?_
  refine s1 10 32 4 rfl rfl rfl rfl rfl rfl trivial ?_
  refine s1 11 40 5 rfl rfl rfl rfl rfl rfl trivial ?_
  refine s1 3 48 6 rfl rfl rfl rfl rfl rfl trivial ?_
  refine s1 4 56 7 rfl rfl rfl rfl rfl rfl trivial ?_
  refine e1 64 rfl ?_
  refine keep [0, 4] rfl ?_
  refine r1 ?_
  refine s1 12 64 1 rfl rfl rfl rfl rfl rfl trivial ?_
  refine s1 13 72 2 rfl rfl rfl rfl rfl rfl (by first | trivial | omega | (simp only [List.length_map, List.length_append, List.length_cons, List.length_nil] at *; omega)) ?_
  refine e1 80 rfl ?_
  refine keep [0, 4, 13] rfl ?_
  refine q1 rfl (fun hc2 => ?_) (fun hc2 => ?_)
  · skip
    try simp only [decide_eq_true_eq, decide_eq_false_iff_not, Bool.not_eq_true', Bool.not_eq_false', beq_iff_eq, bne_iff_ne, beq_eq_false_iff_ne, Bool.and_eq_true, Bool.or_eq_true, Bool.and_eq_false_iff, Bool.or_eq_false_iff, ge_iff_le, gt_iff_lt, Int.not_lt, Int.not_le, ne_eq, Decidable.not_not, bne_eq_false_iff_eq] at hc2
    refine r1 ?_
    refine s1 14 80 1 rfl rfl rfl rfl rfl rfl trivial ?_
    refine s1 2 88 2 rfl rfl rfl rfl rfl rfl trivial ?_
    refine e1 96 rfl ?_
    refine keep [2] rfl ?_
    refine W_ret ?_
    refine tr ?_
    exact out1 2 (SV.i (rfault l)) (π := []) (hout := []) Tryd.results50 rfl (by unfold rfault; rw [if_neg hz]; try rfl) rfl rfl trivial ⟨rfl, rfl⟩
  · skip
    exact absurd hc2 (by simpa using hz)

theorem rfault_any (l : List Smp) (hin : SmpIn l) : Spec Tryd.prog GC 50 [smpV l] [] (fun r ho => r = SV.i (rfault l) ∧ ho = []) := by
  by_cases hz : sfault l = 0
  · exact rfault_ok l hin hz
  · exact rfault_bad l hin hz

theorem refFault_any (l : List Smp) (hin : SmpIn l) : Spec Tryd.prog GC 53 [smpV l] [] (fun r ho => r = SV.i (rfault l) ∧ ho = []) := by
  refine start 36 0 Tryd.func53 rfl rfl rfl rfl ?_
  refine r1 ?_
  refine s1 2 0 1 rfl rfl rfl rfl rfl rfl trivial ?_
  refine e1 8 rfl ?_
  refine keep [0] rfl ?_
  refine W_seq ?_
  refine r1 ?_
  refine s1 6 8 1 rfl rfl rfl rfl rfl rfl trivial ?_
  refine c1 (sfault_any l hin) [] [] 7 16 2 rfl rfl rfl rfl rfl rfl rfl rfl Tryd.func32 rfl rfl rfl rfl trivial rfl rfl ?_
  refine s1 3 24 3 rfl rfl rfl rfl rfl rfl trivial ?_
  refine e1 32 rfl ?_
  refine keep [0, 3] rfl ?_
  refine r1 ?_
  refine s1 8 32 1 rfl rfl rfl rfl rfl rfl trivial ?_
  refine s1 9 40 2 rfl rfl rfl rfl rfl rfl (by first | trivial | omega | (simp only [List.length_map, List.length_append, List.length_cons, List.length_nil] at *; omega)) ?_
  refine e1 48 rfl ?_
  refine keep [0, 3, 9] rfl ?_
  refine q1 rfl (fun hc2 => ?_) (fun hc2 => ?_)
  · skip
    try simp only [decide_eq_true_eq, decide_eq_false_iff_not, Bool.not_eq_true', Bool.not_eq_false', beq_iff_eq, bne_iff_ne, beq_eq_false_iff_ne, Bool.and_eq_true, Bool.or_eq_true, Bool.and_eq_false_iff, Bool.or_eq_false_iff, ge_iff_le, gt_iff_lt, Int.not_lt, Int.not_le, ne_eq, Decidable.not_not, bne_eq_false_iff_eq] at hc2
    have hz : sfault l ≠ 0 := hc2
    refine r1 ?_
    refine s1 10 48 1 rfl rfl rfl rfl rfl rfl trivial ?_
    refine s1 2 56 2 rfl rfl rfl rfl rfl rfl trivial ?_
    refine e1 64 rfl ?_
    refine keep [2] rfl ?_
    refine W_ret ?_
    refine tr ?_
    exact out1 2 (SV.i (rfault l)) (π := []) (hout := []) Tryd.results53 rfl (by unfold rfault; rw [if_neg hz]; try rfl) rfl rfl trivial ⟨rfl, rfl⟩
  · skip
    try simp only [decide_eq_true_eq, decide_eq_false_iff_not, Bool.not_eq_true', Bool.not_eq_false', beq_iff_eq, bne_iff_ne, beq_eq_false_iff_ne, Bool.and_eq_true, Bool.or_eq_true, Bool.and_eq_false_iff, Bool.or_eq_false_iff, ge_iff_le, gt_iff_lt, Int.not_lt, Int.not_le, ne_eq, Decidable.not_not, bne_eq_false_iff_eq] at hc2
    have hz : sfault l = 0 := hc2
    refine W_skip ?_
    refine tn ?_
    refine W_seq ?_
    refine r1 ?_
    refine s1 11 48 1 rfl rfl rfl rfl rfl rfl trivial ?_
    refine s1 12 56 2 rfl rfl rfl rfl rfl rfl (by first | trivial | omega | (simp only [List.length_map, List.length_append, List.length_cons, List.length_nil] at *; omega)) ?_
    refine s1 13 64 3 rfl rfl rfl rfl rfl rfl trivial ?_
    refine e1 72 rfl ?_
    refine keep [11, 12, 13] rfl ?_
    refine W_block ?_
    have hl := (sf_parts hz).1
    refine loop (α := Nat) 0 (fun n => [(11, smpV l), (12, SV.i l.length), (13, SV.i (n))]) (fun n => []) (fun n => (n) ≤ l.length ∧ ∀ j, j < (n) → nearS (l.getD j default) = true) (fun n => l.length - (n)) (((0) : Nat)) [] (fun _ => rfl) (show (0) ≤ l.length ∧ ∀ j, j < (0) → nearS (l.getD j default) = true from ⟨Nat.zero_le _, fun j hj => by omega⟩) rfl ⟨rfl, rfl, rfl, trivial⟩ trivial (fun n hx => ?_)
    show W _ _ _ ⟨tOf [(11, smpV l), (12, SV.i l.length), (13, SV.i n)], hOf [], 0⟩
    have hx : n ≤ l.length ∧ ∀ j, j < n → nearS (l.getD j default) = true := hx
    obtain ⟨hn, hno⟩ := hx
    refine r1 ?_
    refine s1 14 0 1 rfl rfl rfl rfl rfl rfl (by first | trivial | omega | (simp only [List.length_map, List.length_append, List.length_cons, List.length_nil] at *; omega)) ?_
    refine e1 8 rfl ?_
    refine keep [11, 12, 13, 14] rfl ?_
    refine W_seq ?_
    refine q1 rfl (fun hc5 => ?_) (fun hc5 => ?_)
    · skip
      try simp only [decide_eq_true_eq, decide_eq_false_iff_not, Bool.not_eq_true', Bool.not_eq_false', beq_iff_eq, bne_iff_ne, beq_eq_false_iff_ne, Bool.and_eq_true, Bool.or_eq_true, Bool.and_eq_false_iff, Bool.or_eq_false_iff, ge_iff_le, gt_iff_lt, Int.not_lt, Int.not_le, ne_eq, Decidable.not_not, bne_eq_false_iff_eq] at hc5
      refine W_skip ?_
      refine tn ?_
      refine W_seq ?_
      refine W_block ?_
      refine r1 ?_
      refine s1 15 8 1 rfl rfl rfl rfl rfl rfl (by first | trivial | omega | (simp only [List.length_map, List.length_append, List.length_cons, List.length_nil] at *; omega)) ?_
      refine s1 16 16 2 rfl rfl rfl rfl rfl rfl (by first | trivial | omega | (simp only [List.length_map, List.length_append, List.length_cons, List.length_nil] at *; omega)) ?_
      refine val 16 (smpS (l.getD n default)) rfl (by first | rfl | (simp only [Nat.zero_add, Int.toNat_natCast]; rfl)) ?_
      refine s1 5 24 3 rfl rfl rfl rfl rfl rfl trivial ?_
      refine s0 32 4 rfl rfl rfl rfl rfl (by first | trivial | omega | (simp only [List.length_map, List.length_append, List.length_cons, List.length_nil] at *; omega)) ?_
      refine e1 40 rfl ?_
      refine keep [5, 11, 12, 13] rfl ?_
      refine r1 ?_
      refine s1 17 40 1 rfl rfl rfl rfl rfl rfl trivial ?_
      refine s1 18 48 2 rfl rfl rfl rfl rfl rfl (by first | trivial | omega | (simp only [List.length_map, List.length_append, List.length_cons, List.length_nil] at *; omega)) ?_
      refine s1 19 56 3 rfl rfl rfl rfl rfl rfl (by first | trivial | omega | (simp only [List.length_map, List.length_append, List.length_cons, List.length_nil] at *; omega)) ?_
      refine s1 20 64 4 rfl rfl rfl rfl rfl rfl trivial ?_
      refine ask 20 rfl (fun hg7_20 => ?_) (fun hg7_20 => ?_)
      · skip
        try simp only [decide_eq_true_eq, decide_eq_false_iff_not, Bool.not_eq_true', Bool.not_eq_false', beq_iff_eq, bne_iff_ne, beq_eq_false_iff_ne, Bool.and_eq_true, Bool.or_eq_true, Bool.and_eq_false_iff, Bool.or_eq_false_iff, ge_iff_le, gt_iff_lt, Int.not_lt, Int.not_le, ne_eq, Decidable.not_not, bne_eq_false_iff_eq] at hg7_20
        refine g0 3 false 20 21 5 rfl rfl rfl rfl rfl rfl ?_
        refine g0 3 false 20 22 6 rfl rfl rfl rfl rfl rfl ?_
        refine g0 3 false 20 23 7 rfl rfl rfl rfl rfl rfl ?_
        refine s1 24 96 8 rfl rfl rfl rfl rfl rfl trivial ?_
        refine s1 25 104 9 rfl rfl rfl rfl rfl rfl trivial ?_
        refine g0 8 false 25 26 10 rfl rfl rfl rfl rfl rfl ?_
        refine g0 8 false 25 27 11 rfl rfl rfl rfl rfl rfl ?_
        refine g0 8 false 25 28 12 rfl rfl rfl rfl rfl rfl ?_
        refine s1 29 136 13 rfl rfl rfl rfl rfl rfl trivial ?_
        refine s1 30 144 14 rfl rfl rfl rfl rfl rfl trivial ?_
        refine g0 13 false 30 31 15 rfl rfl rfl rfl rfl rfl ?_
        refine g0 13 false 30 32 16 rfl rfl rfl rfl rfl rfl ?_
        refine g0 13 false 30 33 17 rfl rfl rfl rfl rfl rfl ?_
        refine s1 34 176 18 rfl rfl rfl rfl rfl rfl trivial ?_
        refine e1 184 rfl ?_
        refine keep [11, 12, 13, 34] rfl ?_
        refine q1 rfl (fun hc7 => ?_) (fun hc7 => ?_)
        · skip
          try simp only [decide_eq_true_eq, decide_eq_false_iff_not, Bool.not_eq_true', Bool.not_eq_false', beq_iff_eq, bne_iff_ne, beq_eq_false_iff_ne, Bool.and_eq_true, Bool.or_eq_true, Bool.and_eq_false_iff, Bool.or_eq_false_iff, ge_iff_le, gt_iff_lt, Int.not_lt, Int.not_le, ne_eq, Decidable.not_not, bne_eq_false_iff_eq] at hc7
          refine r1 ?_
          refine s1 2 184 1 rfl rfl rfl rfl rfl rfl trivial ?_
          refine e1 192 rfl ?_
          refine keep [2] rfl ?_
          refine W_ret ?_
          refine br ?_
          refine tr ?_
          refine tr ?_
          refine br ?_
          refine tr ?_
          exact out1 2 (SV.i (rfault l)) (π := []) (hout := []) Tryd.results53 rfl (by unfold rfault; rw [if_pos hz, if_neg (by rw [near_not (n := n) (by omega) (by rw [← Bool.not_eq_true]; unfold nearS nearB; simp only [Bool.and_eq_true, decide_eq_true_eq]; omega)]; decide)]; try rfl) rfl rfl trivial ⟨rfl, rfl⟩
        · skip
          exact absurd hc7 (by decide)
      · skip
        try simp only [decide_eq_true_eq, decide_eq_false_iff_not, Bool.not_eq_true', Bool.not_eq_false', beq_iff_eq, bne_iff_ne, beq_eq_false_iff_ne, Bool.and_eq_true, Bool.or_eq_true, Bool.and_eq_false_iff, Bool.or_eq_false_iff, ge_iff_le, gt_iff_lt, Int.not_lt, Int.not_le, ne_eq, Decidable.not_not, bne_eq_false_iff_eq] at hg7_20
        refine g1 3 false 20 21 5 rfl rfl rfl rfl rfl ?_
        refine s1 21 72 5 rfl rfl rfl rfl rfl rfl trivial ?_
        refine g1 3 false 20 22 6 rfl rfl rfl rfl rfl ?_
        refine s1 22 80 6 rfl rfl rfl rfl rfl rfl (by first | trivial | omega | (simp only [List.length_map, List.length_append, List.length_cons, List.length_nil] at *; omega)) ?_
        refine g1 3 false 20 23 7 rfl rfl rfl rfl rfl ?_
        refine s1 23 88 7 rfl rfl rfl rfl rfl rfl (by first | trivial | omega | (simp only [List.length_map, List.length_append, List.length_cons, List.length_nil] at *; omega)) ?_
        refine s1 24 96 8 rfl rfl rfl rfl rfl rfl trivial ?_
        refine s1 25 104 9 rfl rfl rfl rfl rfl rfl trivial ?_
        refine ask 25 rfl (fun hg7_25 => ?_) (fun hg7_25 => ?_)
        · skip
          try simp only [decide_eq_true_eq, decide_eq_false_iff_not, Bool.not_eq_true', Bool.not_eq_false', beq_iff_eq, bne_iff_ne, beq_eq_false_iff_ne, Bool.and_eq_true, Bool.or_eq_true, Bool.and_eq_false_iff, Bool.or_eq_false_iff, ge_iff_le, gt_iff_lt, Int.not_lt, Int.not_le, ne_eq, Decidable.not_not, bne_eq_false_iff_eq] at hg7_25
          refine g0 8 false 25 26 10 rfl rfl rfl rfl rfl rfl ?_
          refine g0 8 false 25 27 11 rfl rfl rfl rfl rfl rfl ?_
          refine g0 8 false 25 28 12 rfl rfl rfl rfl rfl rfl ?_
          refine s1 29 136 13 rfl rfl rfl rfl rfl rfl trivial ?_
          refine s1 30 144 14 rfl rfl rfl rfl rfl rfl trivial ?_
          refine g0 13 false 30 31 15 rfl rfl rfl rfl rfl rfl ?_
          refine g0 13 false 30 32 16 rfl rfl rfl rfl rfl rfl ?_
          refine g0 13 false 30 33 17 rfl rfl rfl rfl rfl rfl ?_
          refine s1 34 176 18 rfl rfl rfl rfl rfl rfl trivial ?_
          refine e1 184 rfl ?_
          refine keep [11, 12, 13, 34] rfl ?_
          refine q1 rfl (fun hc7 => ?_) (fun hc7 => ?_)
          · skip
            try simp only [decide_eq_true_eq, decide_eq_false_iff_not, Bool.not_eq_true', Bool.not_eq_false', beq_iff_eq, bne_iff_ne, beq_eq_false_iff_ne, Bool.and_eq_true, Bool.or_eq_true, Bool.and_eq_false_iff, Bool.or_eq_false_iff, ge_iff_le, gt_iff_lt, Int.not_lt, Int.not_le, ne_eq, Decidable.not_not, bne_eq_false_iff_eq] at hc7
            refine r1 ?_
            refine s1 2 184 1 rfl rfl rfl rfl rfl rfl trivial ?_
            refine e1 192 rfl ?_
            refine keep [2] rfl ?_
            refine W_ret ?_
            refine br ?_
            refine tr ?_
            refine tr ?_
            refine br ?_
            refine tr ?_
            exact out1 2 (SV.i (rfault l)) (π := []) (hout := []) Tryd.results53 rfl (by unfold rfault; rw [if_pos hz, if_neg (by rw [near_not (n := n) (by omega) (by rw [← Bool.not_eq_true]; unfold nearS nearB; simp only [Bool.and_eq_true, decide_eq_true_eq]; omega)]; decide)]; try rfl) rfl rfl trivial ⟨rfl, rfl⟩
          · skip
            exact absurd hc7 (by decide)
        · skip
          try simp only [decide_eq_true_eq, decide_eq_false_iff_not, Bool.not_eq_true', Bool.not_eq_false', beq_iff_eq, bne_iff_ne, beq_eq_false_iff_ne, Bool.and_eq_true, Bool.or_eq_true, Bool.and_eq_false_iff, Bool.or_eq_false_iff, ge_iff_le, gt_iff_lt, Int.not_lt, Int.not_le, ne_eq, Decidable.not_not, bne_eq_false_iff_eq] at hg7_25
          refine g1 8 false 25 26 10 rfl rfl rfl rfl rfl ?_
          refine s1 26 112 10 rfl rfl rfl rfl rfl rfl trivial ?_
          refine g1 8 false 25 27 11 rfl rfl rfl rfl rfl ?_
          refine s1 27 120 11 rfl rfl rfl rfl rfl rfl (by first | trivial | omega | (simp only [List.length_map, List.length_append, List.length_cons, List.length_nil] at *; omega)) ?_
          refine g1 8 false 25 28 12 rfl rfl rfl rfl rfl ?_
          refine s1 28 128 12 rfl rfl rfl rfl rfl rfl (by first | trivial | omega | (simp only [List.length_map, List.length_append, List.length_cons, List.length_nil] at *; omega)) ?_
          refine s1 29 136 13 rfl rfl rfl rfl rfl rfl trivial ?_
          refine s1 30 144 14 rfl rfl rfl rfl rfl rfl trivial ?_
          refine ask 30 rfl (fun hg7_30 => ?_) (fun hg7_30 => ?_)
          · skip
            try simp only [decide_eq_true_eq, decide_eq_false_iff_not, Bool.not_eq_true', Bool.not_eq_false', beq_iff_eq, bne_iff_ne, beq_eq_false_iff_ne, Bool.and_eq_true, Bool.or_eq_true, Bool.and_eq_false_iff, Bool.or_eq_false_iff, ge_iff_le, gt_iff_lt, Int.not_lt, Int.not_le, ne_eq, Decidable.not_not, bne_eq_false_iff_eq] at hg7_30
            refine g0 13 false 30 31 15 rfl rfl rfl rfl rfl rfl ?_
            refine g0 13 false 30 32 16 rfl rfl rfl rfl rfl rfl ?_
            refine g0 13 false 30 33 17 rfl rfl rfl rfl rfl rfl ?_
            refine s1 34 176 18 rfl rfl rfl rfl rfl rfl trivial ?_
            refine e1 184 rfl ?_
            refine keep [11, 12, 13, 34] rfl ?_
            refine q1 rfl (fun hc7 => ?_) (fun hc7 => ?_)
            · skip
              try simp only [decide_eq_true_eq, decide_eq_false_iff_not, Bool.not_eq_true', Bool.not_eq_false', beq_iff_eq, bne_iff_ne, beq_eq_false_iff_ne, Bool.and_eq_true, Bool.or_eq_true, Bool.and_eq_false_iff, Bool.or_eq_false_iff, ge_iff_le, gt_iff_lt, Int.not_lt, Int.not_le, ne_eq, Decidable.not_not, bne_eq_false_iff_eq] at hc7
              refine r1 ?_
              refine s1 2 184 1 rfl rfl rfl rfl rfl rfl trivial ?_
              refine e1 192 rfl ?_
              refine keep [2] rfl ?_
              refine W_ret ?_
              refine br ?_
              refine tr ?_
              refine tr ?_
              refine br ?_
              refine tr ?_
              exact out1 2 (SV.i (rfault l)) (π := []) (hout := []) Tryd.results53 rfl (by unfold rfault; rw [if_pos hz, if_neg (by rw [near_not (n := n) (by omega) (by rw [← Bool.not_eq_true]; unfold nearS nearB; simp only [Bool.and_eq_true, decide_eq_true_eq]; omega)]; decide)]; try rfl) rfl rfl trivial ⟨rfl, rfl⟩
            · skip
              exact absurd hc7 (by decide)
          · skip
            try simp only [decide_eq_true_eq, decide_eq_false_iff_not, Bool.not_eq_true', Bool.not_eq_false', beq_iff_eq, bne_iff_ne, beq_eq_false_iff_ne, Bool.and_eq_true, Bool.or_eq_true, Bool.and_eq_false_iff, Bool.or_eq_false_iff, ge_iff_le, gt_iff_lt, Int.not_lt, Int.not_le, ne_eq, Decidable.not_not, bne_eq_false_iff_eq] at hg7_30
            refine g1 13 false 30 31 15 rfl rfl rfl rfl rfl ?_
            refine s1 31 152 15 rfl rfl rfl rfl rfl rfl trivial ?_
            refine g1 13 false 30 32 16 rfl rfl rfl rfl rfl ?_
            refine s1 32 160 16 rfl rfl rfl rfl rfl rfl (by first | trivial | omega | (simp only [List.length_map, List.length_append, List.length_cons, List.length_nil] at *; omega)) ?_
            refine g1 13 false 30 33 17 rfl rfl rfl rfl rfl ?_
            refine s1 33 168 17 rfl rfl rfl rfl rfl rfl (by first | trivial | omega | (simp only [List.length_map, List.length_append, List.length_cons, List.length_nil] at *; omega)) ?_
            refine s1 34 176 18 rfl rfl rfl rfl rfl rfl trivial ?_
            refine e1 184 rfl ?_
            refine keep [11, 12, 13, 34] rfl ?_
            refine q1 rfl (fun hc7 => ?_) (fun hc7 => ?_)
            · skip
              try simp only [decide_eq_true_eq, decide_eq_false_iff_not, Bool.not_eq_true', Bool.not_eq_false', beq_iff_eq, bne_iff_ne, beq_eq_false_iff_ne, Bool.and_eq_true, Bool.or_eq_true, Bool.and_eq_false_iff, Bool.or_eq_false_iff, ge_iff_le, gt_iff_lt, Int.not_lt, Int.not_le, ne_eq, Decidable.not_not, bne_eq_false_iff_eq] at hc7
              refine r1 ?_
              refine s1 2 184 1 rfl rfl rfl rfl rfl rfl trivial ?_
              refine e1 192 rfl ?_
              refine keep [2] rfl ?_
              refine W_ret ?_
              refine br ?_
              refine tr ?_
              refine tr ?_
              refine br ?_
              refine tr ?_
              exact out1 2 (SV.i (rfault l)) (π := []) (hout := []) Tryd.results53 rfl (by unfold rfault; rw [if_pos hz, if_neg (by rw [near_not (n := n) (by omega) (by rw [← Bool.not_eq_true]; unfold nearS nearB; simp only [Bool.and_eq_true, decide_eq_true_eq]; omega)]; decide)]; try rfl) rfl rfl trivial ⟨rfl, rfl⟩
            · skip
              try simp only [decide_eq_true_eq, decide_eq_false_iff_not, Bool.not_eq_true', Bool.not_eq_false', beq_iff_eq, bne_iff_ne, beq_eq_false_iff_ne, Bool.and_eq_true, Bool.or_eq_true, Bool.and_eq_false_iff, Bool.or_eq_false_iff, ge_iff_le, gt_iff_lt, Int.not_lt, Int.not_le, ne_eq, Decidable.not_not, bne_eq_false_iff_eq] at hc7
              refine W_skip ?_
              refine bn ?_
              refine tn ?_
              refine r0 ?_
              refine sA 35 184 1 rfl rfl rfl rfl rfl rfl rfl rfl rfl (by unfold inRange; omega) ?_
              refine s1 13 192 2 rfl rfl rfl rfl rfl rfl trivial ?_
              refine e1 200 rfl ?_
              refine tn ?_
              exact again ((n + 1 : Nat)) [] (show (n + 1) ≤ l.length ∧ ∀ j, j < (n + 1) → nearS (l.getD j default) = true from ⟨by omega, fun j hj => by by_cases e : j = n; (subst e; clear hno; unfold nearS nearB; simp only [Bool.and_eq_true, decide_eq_true_eq]; omega); exact hno j (by omega)⟩) (show l.length - (n + 1) < l.length - n from (by omega)) rfl ⟨rfl, rfl, rfl, trivial⟩ trivial
    · skip
      try simp only [decide_eq_true_eq, decide_eq_false_iff_not, Bool.not_eq_true', Bool.not_eq_false', beq_iff_eq, bne_iff_ne, beq_eq_false_iff_ne, Bool.and_eq_true, Bool.or_eq_true, Bool.and_eq_false_iff, Bool.or_eq_false_iff, ge_iff_le, gt_iff_lt, Int.not_lt, Int.not_le, ne_eq, Decidable.not_not, bne_eq_false_iff_eq] at hc5
      refine W_exit ?_
      refine tx ?_
      refine tx ?_
      refine bx ?_
      refine tn ?_
      refine r1 ?_
      refine s1 2 8 1 rfl rfl rfl rfl rfl rfl trivial ?_
      refine e1 16 rfl ?_
      refine keep [2] rfl ?_
      refine W_ret ?_
      exact out1 2 (SV.i (rfault l)) (π := []) (hout := []) Tryd.results53 rfl (by unfold rfault; rw [if_pos hz, if_pos (near_all (fun j hj => hno j (by omega)))]; try rfl) rfl rfl trivial ⟨rfl, rfl⟩

theorem rise1_any (n : Int) (a b : Smp) (hn : -100000000000000000 ≤ n ∧ n ≤ 100000000000000000) (ha : (-16777216 ≤ a.t ∧ a.t ≤ 16777216) ∧ (-16777216 ≤ a.v ∧ a.v ≤ 16777216)) (hb : (-16777216 ≤ b.t ∧ b.t ≤ 16777216) ∧ (-16777216 ≤ b.v ∧ b.v ≤ 16777216)) : Spec Tryd.prog GC 54 [smpS a, smpS b, .ptr 0 0 0] [.cells 3 1 [SV.i n]] (fun r ho => r = SV.tup [] ∧ ho = [some (.cells 3 1 [SV.i (riseS n a b)])]) := by
  refine start 18 1 Tryd.func54 rfl rfl rfl rfl ?_
  refine r1 ?_
  refine s1 3 1 1 rfl rfl rfl rfl rfl rfl trivial ?_
  refine s1 4 9 2 rfl rfl rfl rfl rfl rfl trivial ?_
  refine e1 17 rfl ?_
  refine keep [2, 3, 4] rfl ?_
  refine r1 ?_
  refine s1 5 17 1 rfl rfl rfl rfl rfl rfl (by first | trivial | omega | (simp only [List.length_map, List.length_append, List.length_cons, List.length_nil] at *; omega)) ?_
  refine s1 6 25 2 rfl rfl rfl rfl rfl rfl trivial ?_
  refine s1 7 33 3 rfl rfl rfl rfl rfl rfl (by first | trivial | omega | (simp only [List.length_map, List.length_append, List.length_cons, List.length_nil] at *; omega)) ?_
  refine sA 8 41 4 rfl rfl rfl rfl rfl rfl rfl rfl rfl (by unfold inRange; omega) ?_
  refine s0 49 5 rfl rfl rfl rfl rfl (by first | trivial | omega | (simp only [List.length_map, List.length_append, List.length_cons, List.length_nil] at *; omega)) ?_
  refine e1 57 rfl ?_
  refine keep [2, 3, 4] rfl ?_
  refine r1 ?_
  refine s1 9 57 1 rfl rfl rfl rfl rfl rfl trivial ?_
  refine s1 10 65 2 rfl rfl rfl rfl rfl rfl (by first | trivial | omega | (simp only [List.length_map, List.length_append, List.length_cons, List.length_nil] at *; omega)) ?_
  refine s1 11 73 3 rfl rfl rfl rfl rfl rfl trivial ?_
  refine s1 12 81 4 rfl rfl rfl rfl rfl rfl (by first | trivial | omega | (simp only [List.length_map, List.length_append, List.length_cons, List.length_nil] at *; omega)) ?_
  refine s1 13 89 5 rfl rfl rfl rfl rfl rfl (by first | trivial | omega | (simp only [List.length_map, List.length_append, List.length_cons, List.length_nil] at *; omega)) ?_
  refine e1 97 rfl ?_
  refine keep [2, 3, 13] rfl ?_
  refine q1 rfl (fun hc2 => ?_) (fun hc2 => ?_)
  · skip
    try simp only [decide_eq_true_eq, decide_eq_false_iff_not, Bool.not_eq_true', Bool.not_eq_false', beq_iff_eq, bne_iff_ne, beq_eq_false_iff_ne, Bool.and_eq_true, Bool.or_eq_true, Bool.and_eq_false_iff, Bool.or_eq_false_iff, ge_iff_le, gt_iff_lt, Int.not_lt, Int.not_le, ne_eq, Decidable.not_not, bne_eq_false_iff_eq] at hc2
    refine r0 ?_
    refine s1 14 97 1 rfl rfl rfl rfl rfl rfl (by first | trivial | omega | (simp only [List.length_map, List.length_append, List.length_cons, List.length_nil] at *; omega)) ?_
    refine s1 15 105 2 rfl rfl rfl rfl rfl rfl trivial ?_
    refine s1 16 113 3 rfl rfl rfl rfl rfl rfl (by first | trivial | omega | (simp only [List.length_map, List.length_append, List.length_cons, List.length_nil] at *; omega)) ?_
    refine sA 17 121 4 rfl rfl rfl rfl rfl rfl rfl rfl rfl (by unfold inRange; omega) ?_
    refine s0 129 5 rfl rfl rfl rfl rfl (by first | trivial | omega | (simp only [List.length_map, List.length_append, List.length_cons, List.length_nil] at *; omega)) ?_
    refine e1 137 rfl ?_
    exact out0 (π := [0]) (hout := [some (.cells 3 1 [SV.i (riseS n a b)])]) Tryd.results54 rfl rfl ⟨(by show some (Blk.cells _ _ _) = some (Blk.cells _ _ _); unfold riseS; rw [if_pos (by omega)]; rfl), trivial⟩ ⟨rfl, rfl⟩
  · skip
    try simp only [decide_eq_true_eq, decide_eq_false_iff_not, Bool.not_eq_true', Bool.not_eq_false', beq_iff_eq, bne_iff_ne, beq_eq_false_iff_ne, Bool.and_eq_true, Bool.or_eq_true, Bool.and_eq_false_iff, Bool.or_eq_false_iff, ge_iff_le, gt_iff_lt, Int.not_lt, Int.not_le, ne_eq, Decidable.not_not, bne_eq_false_iff_eq] at hc2
    refine W_skip ?_
    exact out0 (π := [0]) (hout := [some (.cells 3 1 [SV.i (riseS n a b)])]) Tryd.results54 rfl rfl ⟨(by show some (Blk.cells _ _ _) = some (Blk.cells _ _ _); unfold riseS; rw [if_neg (by omega)]; rfl), trivial⟩ ⟨rfl, rfl⟩

theorem mean1_any (n : Int) (a b : Smp) (hn : -100000000000000000 ≤ n ∧ n ≤ 100000000000000000) (ha : (-16777216 ≤ a.t ∧ a.t ≤ 16777216) ∧ (-16777216 ≤ a.v ∧ a.v ≤ 16777216)) (hb : (-16777216 ≤ b.t ∧ b.t ≤ 16777216) ∧ (-16777216 ≤ b.v ∧ b.v ≤ 16777216)) : Spec Tryd.prog GC 52 [smpS a, smpS b, .ptr 0 0 0] [.cells 3 1 [SV.i n]] (fun r ho => r = SV.tup [] ∧ ho = [some (.cells 3 1 [SV.i (meanS n a b)])]) := by
  have hm := mean_one ha hb.1
  refine start 15 1 Tryd.func52 rfl rfl rfl rfl ?_
  refine r1 ?_
  refine s1 3 1 1 rfl rfl rfl rfl rfl rfl trivial ?_
  refine s1 4 9 2 rfl rfl rfl rfl rfl rfl trivial ?_
  refine e1 17 rfl ?_
  refine keep [2, 3, 4] rfl ?_
  refine r0 ?_
  refine s1 5 17 1 rfl rfl rfl rfl rfl rfl (by first | trivial | omega | (simp only [List.length_map, List.length_append, List.length_cons, List.length_nil] at *; omega)) ?_
  refine s1 6 25 2 rfl rfl rfl rfl rfl rfl trivial ?_
  refine s1 7 33 3 rfl rfl rfl rfl rfl rfl (by first | trivial | omega | (simp only [List.length_map, List.length_append, List.length_cons, List.length_nil] at *; omega)) ?_
  refine s1 8 41 4 rfl rfl rfl rfl rfl rfl trivial ?_
  refine s1 9 49 5 rfl rfl rfl rfl rfl rfl (by first | trivial | omega | (simp only [List.length_map, List.length_append, List.length_cons, List.length_nil] at *; omega)) ?_
  refine s1 10 57 6 rfl rfl rfl rfl rfl rfl trivial ?_
  refine s1 11 65 7 rfl rfl rfl rfl rfl rfl (by first | trivial | omega | (simp only [List.length_map, List.length_append, List.length_cons, List.length_nil] at *; omega)) ?_
  refine sA 12 73 8 rfl rfl rfl rfl rfl rfl rfl rfl rfl (by unfold inRange; omega) ?_
  refine sA 13 81 9 rfl rfl rfl rfl rfl rfl rfl rfl rfl (by unfold inRange; omega) ?_
  refine sA 14 89 10 rfl rfl rfl rfl rfl rfl rfl rfl rfl (by unfold inRange; omega) ?_
  refine s0 97 11 rfl rfl rfl rfl rfl (by first | trivial | omega | (simp only [List.length_map, List.length_append, List.length_cons, List.length_nil] at *; omega)) ?_
  refine e1 105 rfl ?_
  exact out0 (π := [0]) (hout := [some (.cells 3 1 [SV.i (meanS n a b)])]) Tryd.results52 rfl rfl ⟨rfl, trivial⟩ ⟨rfl, rfl⟩

theorem pairsRise_any (l : List Smp) (hf : Fine l) : Spec Tryd.prog GC 51 [smpV l, .fn 54 [.ptr 0 0 0]] [.cells 3 1 [SV.i 0]] (fun r ho => r = SV.tup [] ∧ ho = [some (.cells 3 1 [SV.i (riseN l (l.length - 1))])]) := by
  have hl := hf.len
  refine start 22 1 Tryd.func51 rfl rfl rfl rfl ?_
  refine r1 ?_
  refine s1 4 1 1 rfl rfl rfl rfl rfl rfl trivial ?_
  refine e1 9 rfl ?_
  refine keep [0, 1, 4] rfl ?_
  refine W_block ?_
  refine loop (α := Nat) 1 (fun i => [(0, smpV l), (1, .fn 54 [.ptr 0 0 0]), (4, SV.i (((i) + 1 : Nat) : Int))]) (fun i => [some (.cells 3 1 [SV.i (riseN l (i))])]) (fun i => (i) + 1 ≤ l.length ∨ (i) = 0) (fun i => l.length - (i)) (((0) : Nat)) [0] (fun _ => rfl) (show (0) + 1 ≤ l.length ∨ (0) = 0 from (.inr rfl)) rfl ⟨rfl, rfl, rfl, trivial⟩ ⟨rfl, trivial⟩ (fun i hx => ?_)
  show W _ _ _ ⟨tOf [(0, smpV l), (1, .fn 54 [.ptr 0 0 0]), (4, SV.i ((i + 1 : Nat) : Int))], hOf [some (.cells 3 1 [SV.i (riseN l i)])], 1⟩
  have hx : i + 1 ≤ l.length ∨ i = 0 := hx
  have hbd := rise_bd hf i hx
  refine W_seq ?_
  refine r1 ?_
  refine s1 5 1 1 rfl rfl rfl rfl rfl rfl trivial ?_
  refine s1 6 9 2 rfl rfl rfl rfl rfl rfl trivial ?_
  refine s1 7 17 3 rfl rfl rfl rfl rfl rfl (by first | trivial | omega | (simp only [List.length_map, List.length_append, List.length_cons, List.length_nil] at *; omega)) ?_
  refine s1 8 25 4 rfl rfl rfl rfl rfl rfl (by first | trivial | omega | (simp only [List.length_map, List.length_append, List.length_cons, List.length_nil] at *; omega)) ?_
  refine e1 33 rfl ?_
  refine keep [0, 1, 4, 8] rfl ?_
  refine q1 rfl (fun hc1 => ?_) (fun hc1 => ?_)
  · skip
    try simp only [decide_eq_true_eq, decide_eq_false_iff_not, Bool.not_eq_true', Bool.not_eq_false', beq_iff_eq, bne_iff_ne, beq_eq_false_iff_ne, Bool.and_eq_true, Bool.or_eq_true, Bool.and_eq_false_iff, Bool.or_eq_false_iff, ge_iff_le, gt_iff_lt, Int.not_lt, Int.not_le, ne_eq, Decidable.not_not, bne_eq_false_iff_eq] at hc1
    refine W_skip ?_
    refine tn ?_
    refine W_seq ?_
    refine W_block ?_
    refine rd0 rfl ?_
    refine d1 11 33 1 rfl rfl rfl rfl rfl rfl trivial ?_
    refine d1 12 41 2 rfl rfl rfl rfl rfl rfl trivial ?_
    refine d1 13 49 3 rfl rfl rfl rfl rfl rfl trivial ?_
    refine dA 14 57 4 rfl rfl rfl rfl rfl rfl rfl rfl rfl (by unfold inRange; omega) ?_
    refine d1 15 65 5 rfl rfl rfl rfl rfl rfl (by omega) ?_
    refine d1 16 73 6 rfl rfl rfl rfl rfl rfl (by first | trivial | omega | (simp only [List.length_map, List.length_append, List.length_cons, List.length_nil] at *; omega)) ?_
    refine val 16 (smpS (l.getD i default)) rfl (by rw [show (((i + 1 : Nat) : Int) - 1).toNat = i by omega]; try rfl) ?_
    refine d1 17 81 7 rfl rfl rfl rfl rfl rfl trivial ?_
    refine d1 18 89 8 rfl rfl rfl rfl rfl rfl trivial ?_
    refine d1 19 97 9 rfl rfl rfl rfl rfl rfl (by omega) ?_
    refine d1 20 105 10 rfl rfl rfl rfl rfl rfl (by first | trivial | omega | (simp only [List.length_map, List.length_append, List.length_cons, List.length_nil] at *; omega)) ?_
    refine val 20 (smpS (l.getD (i + 1) default)) rfl rfl ?_
    refine dc1 (rise1_any (riseN l i) (l.getD i default) (l.getD (i + 1) default) (by omega) (hf.near i (by omega)) (hf.near (i + 1) (by omega))) [0] [0] 21 113 11 rfl rfl rfl rfl rfl rfl rfl rfl Tryd.func54 rfl rfl rfl rfl ⟨rfl, trivial⟩ rfl rfl ?_
    refine de1 121 rfl (by kernel_rfl) ?_
    refine bn ?_
    refine tn ?_
    refine r0 ?_
    refine s1 9 121 1 rfl rfl rfl rfl rfl rfl trivial ?_
    refine sA 10 129 2 rfl rfl rfl rfl rfl rfl rfl rfl rfl (by unfold inRange; omega) ?_
    refine s1 4 137 3 rfl rfl rfl rfl rfl rfl trivial ?_
    refine e1 145 rfl ?_
    refine tn ?_
    exact again ((i + 1 : Nat)) [0] (show (i + 1) + 1 ≤ l.length ∨ (i + 1) = 0 from (by omega)) (show l.length - (i + 1) < l.length - i from (by omega)) rfl ⟨rfl, rfl, rfl, trivial⟩ ⟨rfl, trivial⟩
  · skip
    try simp only [decide_eq_true_eq, decide_eq_false_iff_not, Bool.not_eq_true', Bool.not_eq_false', beq_iff_eq, bne_iff_ne, beq_eq_false_iff_ne, Bool.and_eq_true, Bool.or_eq_true, Bool.and_eq_false_iff, Bool.or_eq_false_iff, ge_iff_le, gt_iff_lt, Int.not_lt, Int.not_le, ne_eq, Decidable.not_not, bne_eq_false_iff_eq] at hc1
    refine W_exit ?_
    refine tx ?_
    refine tx ?_
    refine bx ?_
    exact out0 (π := [0]) (hout := [some (.cells 3 1 [SV.i (riseN l (l.length - 1))])]) Tryd.results51 rfl rfl ⟨(by show some (Blk.cells _ _ [SV.i _]) = some (Blk.cells _ _ [SV.i _]); rw [show l.length - 1 = i by omega]), trivial⟩ ⟨rfl, rfl⟩

theorem rise_any (l : List Smp) (hin : SmpIn l) : Spec Tryd.prog GC 22 [smpV l] [] (fun r ho => r = SV.tup [SV.i (riseR l), SV.i (rfault l)] ∧ ho = []) := by
  refine start 15 0 Tryd.func22 rfl rfl rfl rfl ?_
  refine r1 ?_
  refine s1 2 0 1 rfl rfl rfl rfl rfl rfl trivial ?_
  refine s1 3 8 2 rfl rfl rfl rfl rfl rfl trivial ?_
  refine e1 16 rfl ?_
  refine keep [0] rfl ?_
  refine W_seq ?_
  refine r1 ?_
  refine s1 6 16 1 rfl rfl rfl rfl rfl rfl trivial ?_
  refine c1 (rfault_any l hin) [] [] 7 24 2 rfl rfl rfl rfl rfl rfl rfl rfl Tryd.func50 rfl rfl rfl rfl trivial rfl rfl ?_
  refine s1 4 32 3 rfl rfl rfl rfl rfl rfl trivial ?_
  refine e1 40 rfl ?_
  refine keep [0, 4] rfl ?_
  refine r1 ?_
  refine s1 8 40 1 rfl rfl rfl rfl rfl rfl trivial ?_
  refine s1 9 48 2 rfl rfl rfl rfl rfl rfl (by first | trivial | omega | (simp only [List.length_map, List.length_append, List.length_cons, List.length_nil] at *; omega)) ?_
  refine e1 56 rfl ?_
  refine keep [0, 4, 9] rfl ?_
  refine q1 rfl (fun hc2 => ?_) (fun hc2 => ?_)
  · skip
    try simp only [decide_eq_true_eq, decide_eq_false_iff_not, Bool.not_eq_true', Bool.not_eq_false', beq_iff_eq, bne_iff_ne, beq_eq_false_iff_ne, Bool.and_eq_true, Bool.or_eq_true, Bool.and_eq_false_iff, Bool.or_eq_false_iff, ge_iff_le, gt_iff_lt, Int.not_lt, Int.not_le, ne_eq, Decidable.not_not, bne_eq_false_iff_eq] at hc2
    refine r1 ?_
    refine s1 10 56 1 rfl rfl rfl rfl rfl rfl trivial ?_
    refine s1 2 64 2 rfl rfl rfl rfl rfl rfl trivial ?_
    refine s1 3 72 3 rfl rfl rfl rfl rfl rfl trivial ?_
    refine e1 80 rfl ?_
    refine keep [2, 3] rfl ?_
    refine W_ret ?_
    refine tr ?_
    exact out2 2 3 (SV.i (riseR l)) (SV.i (rfault l)) (π := []) (hout := []) Tryd.results22 rfl rfl (by unfold riseR; rw [if_neg hc2]; try rfl) rfl rfl rfl trivial ⟨rfl, rfl⟩
  · skip
    try simp only [decide_eq_true_eq, decide_eq_false_iff_not, Bool.not_eq_true', Bool.not_eq_false', beq_iff_eq, bne_iff_ne, beq_eq_false_iff_ne, Bool.and_eq_true, Bool.or_eq_true, Bool.and_eq_false_iff, Bool.or_eq_false_iff, ge_iff_le, gt_iff_lt, Int.not_lt, Int.not_le, ne_eq, Decidable.not_not, bne_eq_false_iff_eq] at hc2
    refine W_skip ?_
    refine tn ?_
    refine r1 ?_
    refine s1 5 56 1 rfl rfl rfl rfl rfl rfl trivial ?_
    refine s0 64 2 rfl rfl rfl rfl rfl (by first | trivial | omega | (simp only [List.length_map, List.length_append, List.length_cons, List.length_nil] at *; omega)) ?_
    refine e1 72 rfl ?_
    refine keep [0, 5] rfl ?_
    refine r1 ?_
    refine s1 11 72 1 rfl rfl rfl rfl rfl rfl trivial ?_
    refine s1 12 80 2 rfl rfl rfl rfl rfl rfl trivial ?_
    refine c1 (pairsRise_any l (fine_of hc2)) [56] [56] 13 88 3 rfl rfl rfl rfl rfl rfl rfl rfl Tryd.func51 rfl rfl rfl rfl ⟨rfl, trivial⟩ rfl rfl ?_
    refine e1 96 rfl ?_
    refine keep [5] rfl ?_
    refine r1 ?_
    refine s1 14 96 1 rfl rfl rfl rfl rfl rfl (by first | trivial | omega | (simp only [List.length_map, List.length_append, List.length_cons, List.length_nil] at *; omega)) ?_
    refine s1 2 104 2 rfl rfl rfl rfl rfl rfl trivial ?_
    refine s1 3 112 3 rfl rfl rfl rfl rfl rfl trivial ?_
    refine e1 120 rfl ?_
    refine keep [2, 3] rfl ?_
    refine W_ret ?_
    exact out2 2 3 (SV.i (riseR l)) (SV.i (rfault l)) (π := []) (hout := []) Tryd.results22 rfl rfl (by unfold riseR; rw [if_pos hc2]; try rfl) (by rw [hc2]; try rfl) rfl rfl trivial ⟨rfl, rfl⟩

theorem refRise_any (l : List Smp) (hin : SmpIn l) : Spec Tryd.prog GC 23 [smpV l] [] (fun r ho => r = SV.tup [SV.i (riseR l), SV.i (rfault l)] ∧ ho = []) := by
  refine start 52 0 Tryd.func23 rfl rfl rfl rfl ?_
  refine r1 ?_
  refine s1 2 0 1 rfl rfl rfl rfl rfl rfl trivial ?_
  refine s1 3 8 2 rfl rfl rfl rfl rfl rfl trivial ?_
  refine e1 16 rfl ?_
  refine keep [0] rfl ?_
  refine W_seq ?_
  refine r1 ?_
  refine s1 7 16 1 rfl rfl rfl rfl rfl rfl trivial ?_
  refine c1 (refFault_any l hin) [] [] 8 24 2 rfl rfl rfl rfl rfl rfl rfl rfl Tryd.func53 rfl rfl rfl rfl trivial rfl rfl ?_
  refine s1 4 32 3 rfl rfl rfl rfl rfl rfl trivial ?_
  refine e1 40 rfl ?_
  refine keep [0, 4] rfl ?_
  refine r1 ?_
  refine s1 9 40 1 rfl rfl rfl rfl rfl rfl trivial ?_
  refine s1 10 48 2 rfl rfl rfl rfl rfl rfl (by first | trivial | omega | (simp only [List.length_map, List.length_append, List.length_cons, List.length_nil] at *; omega)) ?_
  refine e1 56 rfl ?_
  refine keep [0, 4, 10] rfl ?_
  refine q1 rfl (fun hc2 => ?_) (fun hc2 => ?_)
  · skip
    try simp only [decide_eq_true_eq, decide_eq_false_iff_not, Bool.not_eq_true', Bool.not_eq_false', beq_iff_eq, bne_iff_ne, beq_eq_false_iff_ne, Bool.and_eq_true, Bool.or_eq_true, Bool.and_eq_false_iff, Bool.or_eq_false_iff, ge_iff_le, gt_iff_lt, Int.not_lt, Int.not_le, ne_eq, Decidable.not_not, bne_eq_false_iff_eq] at hc2
    refine r1 ?_
    refine s1 11 56 1 rfl rfl rfl rfl rfl rfl trivial ?_
    refine s1 2 64 2 rfl rfl rfl rfl rfl rfl trivial ?_
    refine s1 3 72 3 rfl rfl rfl rfl rfl rfl trivial ?_
    refine e1 80 rfl ?_
    refine keep [2, 3] rfl ?_
    refine W_ret ?_
    refine tr ?_
    exact out2 2 3 (SV.i (riseR l)) (SV.i (rfault l)) (π := []) (hout := []) Tryd.results23 rfl rfl (by unfold riseR; rw [if_neg hc2]; try rfl) rfl rfl rfl trivial ⟨rfl, rfl⟩
  · skip
    try simp only [decide_eq_true_eq, decide_eq_false_iff_not, Bool.not_eq_true', Bool.not_eq_false', beq_iff_eq, bne_iff_ne, beq_eq_false_iff_ne, Bool.and_eq_true, Bool.or_eq_true, Bool.and_eq_false_iff, Bool.or_eq_false_iff, ge_iff_le, gt_iff_lt, Int.not_lt, Int.not_le, ne_eq, Decidable.not_not, bne_eq_false_iff_eq] at hc2
    refine W_skip ?_
    refine tn ?_
    refine r1 ?_
    refine s1 5 56 1 rfl rfl rfl rfl rfl rfl trivial ?_
    refine e1 64 rfl ?_
    refine keep [0, 5] rfl ?_
    refine W_seq ?_
    refine r1 ?_
    refine s1 6 64 1 rfl rfl rfl rfl rfl rfl trivial ?_
    refine e1 72 rfl ?_
    refine keep [0, 5, 6] rfl ?_
    refine W_block ?_
    have hf := fine_of hc2
    have hl := hf.len
    refine loop (α := Nat × Int) 0 (fun z => [(0, smpV l), (5, SV.i (z.2)), (6, SV.i (((z.1) + 1 : Nat) : Int))]) (fun z => []) (fun z => ((z.1) + 1 ≤ l.length ∨ (z.1) = 0) ∧ (z.2) = riseN l (z.1)) (fun z => l.length - (z.1)) (((0, 0) : Nat × Int)) [] (fun _ => rfl) (show ((0) + 1 ≤ l.length ∨ (0) = 0) ∧ (0) = riseN l (0) from ⟨.inr rfl, rfl⟩) rfl ⟨rfl, rfl, rfl, trivial⟩ trivial (fun z hx => ?_)
    obtain ⟨i, n⟩ := z
    show W _ _ _ ⟨tOf [(0, smpV l), (5, SV.i n), (6, SV.i ((i + 1 : Nat) : Int))], hOf [], 0⟩
    have hx : (i + 1 ≤ l.length ∨ i = 0) ∧ n = riseN l i := hx
    obtain ⟨hx, hn⟩ := hx
    have hbd := rise_bd hf i hx
    rw [← hn] at hbd
    refine W_seq ?_
    refine r1 ?_
    refine s1 12 0 1 rfl rfl rfl rfl rfl rfl trivial ?_
    refine s1 13 8 2 rfl rfl rfl rfl rfl rfl trivial ?_
    refine s1 14 16 3 rfl rfl rfl rfl rfl rfl (by first | trivial | omega | (simp only [List.length_map, List.length_append, List.length_cons, List.length_nil] at *; omega)) ?_
    refine s1 15 24 4 rfl rfl rfl rfl rfl rfl (by first | trivial | omega | (simp only [List.length_map, List.length_append, List.length_cons, List.length_nil] at *; omega)) ?_
    refine e1 32 rfl ?_
    refine keep [0, 5, 6, 15] rfl ?_
    refine q1 rfl (fun hc6 => ?_) (fun hc6 => ?_)
    · skip
      try simp only [decide_eq_true_eq, decide_eq_false_iff_not, Bool.not_eq_true', Bool.not_eq_false', beq_iff_eq, bne_iff_ne, beq_eq_false_iff_ne, Bool.and_eq_true, Bool.or_eq_true, Bool.and_eq_false_iff, Bool.or_eq_false_iff, ge_iff_le, gt_iff_lt, Int.not_lt, Int.not_le, ne_eq, Decidable.not_not, bne_eq_false_iff_eq] at hc6
      have n1 := (hf.near i (by omega)).2
      have n2 := (hf.near (i + 1) (by omega)).2
      refine W_skip ?_
      refine tn ?_
      refine W_seq ?_
      refine W_block ?_
      refine rd1 rfl ?_
      refine d1 18 32 1 rfl rfl rfl rfl rfl rfl trivial ?_
      refine d1 19 40 2 rfl rfl rfl rfl rfl rfl trivial ?_
      refine d1 20 48 3 rfl rfl rfl rfl rfl rfl (by first | trivial | omega | (simp only [List.length_map, List.length_append, List.length_cons, List.length_nil] at *; omega)) ?_
      refine d1 21 56 4 rfl rfl rfl rfl rfl rfl trivial ?_
      refine d1 22 64 5 rfl rfl rfl rfl rfl rfl (by first | trivial | omega | (simp only [List.length_map, List.length_append, List.length_cons, List.length_nil] at *; omega)) ?_
      refine val 22 (SV.i (l.getD (i + 1) default).v) rfl rfl ?_
      refine d1 23 72 6 rfl rfl rfl rfl rfl rfl trivial ?_
      refine d1 24 80 7 rfl rfl rfl rfl rfl rfl trivial ?_
      refine dA 25 88 8 rfl rfl rfl rfl rfl rfl rfl rfl rfl (by unfold inRange; omega) ?_
      refine d1 26 96 9 rfl rfl rfl rfl rfl rfl (by first | trivial | omega | (simp only [List.length_map, List.length_append, List.length_cons, List.length_nil] at *; omega)) ?_
      refine d1 27 104 10 rfl rfl rfl rfl rfl rfl trivial ?_
      refine d1 28 112 11 rfl rfl rfl rfl rfl rfl (by first | trivial | omega | (simp only [List.length_map, List.length_append, List.length_cons, List.length_nil] at *; omega)) ?_
      refine val 28 (SV.i (l.getD i default).v) rfl (by rw [show (((i + 1 : Nat) : Int) - 1).toNat = i by omega]; try rfl) ?_
      refine d1 29 120 12 rfl rfl rfl rfl rfl rfl (by first | trivial | omega | (simp only [List.length_map, List.length_append, List.length_cons, List.length_nil] at *; omega)) ?_
      refine de1 128 rfl (by kernel_rfl) ?_
      refine keep [0, 5, 6, 29] rfl ?_
      refine q1 rfl (fun hc8 => ?_) (fun hc8 => ?_)
      · skip
        try simp only [decide_eq_true_eq, decide_eq_false_iff_not, Bool.not_eq_true', Bool.not_eq_false', beq_iff_eq, bne_iff_ne, beq_eq_false_iff_ne, Bool.and_eq_true, Bool.or_eq_true, Bool.and_eq_false_iff, Bool.or_eq_false_iff, ge_iff_le, gt_iff_lt, Int.not_lt, Int.not_le, ne_eq, Decidable.not_not, bne_eq_false_iff_eq] at hc8
        refine r0 ?_
        refine s1 30 128 1 rfl rfl rfl rfl rfl rfl trivial ?_
        refine s1 31 136 2 rfl rfl rfl rfl rfl rfl trivial ?_
        refine s1 32 144 3 rfl rfl rfl rfl rfl rfl trivial ?_
        refine s1 33 152 4 rfl rfl rfl rfl rfl rfl (by first | trivial | omega | (simp only [List.length_map, List.length_append, List.length_cons, List.length_nil] at *; omega)) ?_
        refine s1 34 160 5 rfl rfl rfl rfl rfl rfl trivial ?_
        refine s1 35 168 6 rfl rfl rfl rfl rfl rfl (by first | trivial | omega | (simp only [List.length_map, List.length_append, List.length_cons, List.length_nil] at *; omega)) ?_
        refine val 35 (SV.i (l.getD (i + 1) default).v) rfl rfl ?_
        refine sA 36 176 7 rfl rfl rfl rfl rfl rfl rfl rfl rfl (by unfold inRange; omega) ?_
        refine s1 5 184 8 rfl rfl rfl rfl rfl rfl trivial ?_
        refine e1 192 rfl ?_
        refine bn ?_
        refine tn ?_
        refine r0 ?_
        refine s1 16 192 1 rfl rfl rfl rfl rfl rfl trivial ?_
        refine sA 17 200 2 rfl rfl rfl rfl rfl rfl rfl rfl rfl (by unfold inRange; omega) ?_
        refine s1 6 208 3 rfl rfl rfl rfl rfl rfl trivial ?_
        refine e1 216 rfl ?_
        refine tn ?_
        exact again (((i + 1, n + (l.getD (i + 1) default).v) : Nat × Int)) [] (show ((i + 1) + 1 ≤ l.length ∨ (i + 1) = 0) ∧ (n + (l.getD (i + 1) default).v) = riseN l (i + 1) from ⟨by omega, by show _ = riseS _ _ _; unfold riseS; rw [if_neg (by omega), hn]⟩) (show l.length - (i + 1) < l.length - i from (by omega)) rfl ⟨rfl, rfl, rfl, trivial⟩ trivial
      · skip
        try simp only [decide_eq_true_eq, decide_eq_false_iff_not, Bool.not_eq_true', Bool.not_eq_false', beq_iff_eq, bne_iff_ne, beq_eq_false_iff_ne, Bool.and_eq_true, Bool.or_eq_true, Bool.and_eq_false_iff, Bool.or_eq_false_iff, ge_iff_le, gt_iff_lt, Int.not_lt, Int.not_le, ne_eq, Decidable.not_not, bne_eq_false_iff_eq] at hc8
        refine rd0 rfl ?_
        refine d1 37 128 1 rfl rfl rfl rfl rfl rfl trivial ?_
        refine d1 38 136 2 rfl rfl rfl rfl rfl rfl trivial ?_
        refine d1 39 144 3 rfl rfl rfl rfl rfl rfl trivial ?_
        refine d1 40 152 4 rfl rfl rfl rfl rfl rfl (by first | trivial | omega | (simp only [List.length_map, List.length_append, List.length_cons, List.length_nil] at *; omega)) ?_
        refine d1 41 160 5 rfl rfl rfl rfl rfl rfl trivial ?_
        refine d1 42 168 6 rfl rfl rfl rfl rfl rfl (by first | trivial | omega | (simp only [List.length_map, List.length_append, List.length_cons, List.length_nil] at *; omega)) ?_
        refine val 42 (SV.i (l.getD (i + 1) default).v) rfl rfl ?_
        refine d1 43 176 7 rfl rfl rfl rfl rfl rfl trivial ?_
        refine d1 44 184 8 rfl rfl rfl rfl rfl rfl trivial ?_
        refine dA 45 192 9 rfl rfl rfl rfl rfl rfl rfl rfl rfl (by unfold inRange; omega) ?_
        refine d1 46 200 10 rfl rfl rfl rfl rfl rfl (by first | trivial | omega | (simp only [List.length_map, List.length_append, List.length_cons, List.length_nil] at *; omega)) ?_
        refine d1 47 208 11 rfl rfl rfl rfl rfl rfl trivial ?_
        refine d1 48 216 12 rfl rfl rfl rfl rfl rfl (by first | trivial | omega | (simp only [List.length_map, List.length_append, List.length_cons, List.length_nil] at *; omega)) ?_
        refine val 48 (SV.i (l.getD i default).v) rfl (by rw [show (((i + 1 : Nat) : Int) - 1).toNat = i by omega]; try rfl) ?_
        refine dA 49 224 13 rfl rfl rfl rfl rfl rfl rfl rfl rfl (by unfold inRange; omega) ?_
        refine dA 50 232 14 rfl rfl rfl rfl rfl rfl rfl rfl rfl (by unfold inRange; omega) ?_
        refine d1 5 240 15 rfl rfl rfl rfl rfl rfl trivial ?_
        refine de1 248 rfl (by kernel_rfl) ?_
        refine bn ?_
        refine tn ?_
        refine r0 ?_
        refine s1 16 248 1 rfl rfl rfl rfl rfl rfl trivial ?_
        refine sA 17 256 2 rfl rfl rfl rfl rfl rfl rfl rfl rfl (by unfold inRange; omega) ?_
        refine s1 6 264 3 rfl rfl rfl rfl rfl rfl trivial ?_
        refine e1 272 rfl ?_
        refine tn ?_
        exact again (((i + 1, n + ((l.getD (i + 1) default).v - (l.getD i default).v)) : Nat × Int)) [] (show ((i + 1) + 1 ≤ l.length ∨ (i + 1) = 0) ∧ (n + ((l.getD (i + 1) default).v - (l.getD i default).v)) = riseN l (i + 1) from ⟨by omega, by show _ = riseS _ _ _; unfold riseS; rw [if_pos (by omega), hn]; omega⟩) (show l.length - (i + 1) < l.length - i from (by omega)) rfl ⟨rfl, rfl, rfl, trivial⟩ trivial
    · skip
      try simp only [decide_eq_true_eq, decide_eq_false_iff_not, Bool.not_eq_true', Bool.not_eq_false', beq_iff_eq, bne_iff_ne, beq_eq_false_iff_ne, Bool.and_eq_true, Bool.or_eq_true, Bool.and_eq_false_iff, Bool.or_eq_false_iff, ge_iff_le, gt_iff_lt, Int.not_lt, Int.not_le, ne_eq, Decidable.not_not, bne_eq_false_iff_eq] at hc6
      refine W_exit ?_
      refine tx ?_
      refine tx ?_
      refine bx ?_
      refine tn ?_
      refine r1 ?_
      refine s1 51 32 1 rfl rfl rfl rfl rfl rfl trivial ?_
      refine s1 2 40 2 rfl rfl rfl rfl rfl rfl trivial ?_
      refine s1 3 48 3 rfl rfl rfl rfl rfl rfl trivial ?_
      refine e1 56 rfl ?_
      refine keep [2, 3] rfl ?_
      refine W_ret ?_
      exact out2 2 3 (SV.i (riseR l)) (SV.i (rfault l)) (π := []) (hout := []) Tryd.results23 rfl rfl (by unfold riseR; rw [if_pos hc2, show l.length - 1 = i by omega, ← hn]; try rfl) (by rw [hc2]; try rfl) rfl rfl trivial ⟨rfl, rfl⟩

theorem pairsMean_any (l : List Smp) (hf : Fine l) : Spec Tryd.prog GC 51 [smpV l, .fn 52 [.ptr 0 0 0]] [.cells 3 1 [SV.i 0]] (fun r ho => r = SV.tup [] ∧ ho = [some (.cells 3 1 [SV.i (meanN l (l.length - 1))])]) := by
  have hl := hf.len
  refine start 22 1 Tryd.func51 rfl rfl rfl rfl ?_
  refine r1 ?_
  refine s1 4 1 1 rfl rfl rfl rfl rfl rfl trivial ?_
  refine e1 9 rfl ?_
  refine keep [0, 1, 4] rfl ?_
  refine W_block ?_
  refine loop (α := Nat) 1 (fun i => [(0, smpV l), (1, .fn 52 [.ptr 0 0 0]), (4, SV.i (((i) + 1 : Nat) : Int))]) (fun i => [some (.cells 3 1 [SV.i (meanN l (i))])]) (fun i => (i) + 1 ≤ l.length ∨ (i) = 0) (fun i => l.length - (i)) (((0) : Nat)) [0] (fun _ => rfl) (show (0) + 1 ≤ l.length ∨ (0) = 0 from (.inr rfl)) rfl ⟨rfl, rfl, rfl, trivial⟩ ⟨rfl, trivial⟩ (fun i hx => ?_)
  show W _ _ _ ⟨tOf [(0, smpV l), (1, .fn 52 [.ptr 0 0 0]), (4, SV.i ((i + 1 : Nat) : Int))], hOf [some (.cells 3 1 [SV.i (meanN l i)])], 1⟩
  have hx : i + 1 ≤ l.length ∨ i = 0 := hx
  have hbd := mean_bd hf i hx
  refine W_seq ?_
  refine r1 ?_
  refine s1 5 1 1 rfl rfl rfl rfl rfl rfl trivial ?_
  refine s1 6 9 2 rfl rfl rfl rfl rfl rfl trivial ?_
  refine s1 7 17 3 rfl rfl rfl rfl rfl rfl (by first | trivial | omega | (simp only [List.length_map, List.length_append, List.length_cons, List.length_nil] at *; omega)) ?_
  refine s1 8 25 4 rfl rfl rfl rfl rfl rfl (by first | trivial | omega | (simp only [List.length_map, List.length_append, List.length_cons, List.length_nil] at *; omega)) ?_
  refine e1 33 rfl ?_
  refine keep [0, 1, 4, 8] rfl ?_
  refine q1 rfl (fun hc1 => ?_) (fun hc1 => ?_)
  · skip
    try simp only [decide_eq_true_eq, decide_eq_false_iff_not, Bool.not_eq_true', Bool.not_eq_false', beq_iff_eq, bne_iff_ne, beq_eq_false_iff_ne, Bool.and_eq_true, Bool.or_eq_true, Bool.and_eq_false_iff, Bool.or_eq_false_iff, ge_iff_le, gt_iff_lt, Int.not_lt, Int.not_le, ne_eq, Decidable.not_not, bne_eq_false_iff_eq] at hc1
    refine W_skip ?_
    refine tn ?_
    refine W_seq ?_
    refine W_block ?_
    refine rd0 rfl ?_
    refine d1 11 33 1 rfl rfl rfl rfl rfl rfl trivial ?_
    refine d1 12 41 2 rfl rfl rfl rfl rfl rfl trivial ?_
    refine d1 13 49 3 rfl rfl rfl rfl rfl rfl trivial ?_
    refine dA 14 57 4 rfl rfl rfl rfl rfl rfl rfl rfl rfl (by unfold inRange; omega) ?_
    refine d1 15 65 5 rfl rfl rfl rfl rfl rfl (by omega) ?_
    refine d1 16 73 6 rfl rfl rfl rfl rfl rfl (by first | trivial | omega | (simp only [List.length_map, List.length_append, List.length_cons, List.length_nil] at *; omega)) ?_
    refine val 16 (smpS (l.getD i default)) rfl (by rw [show (((i + 1 : Nat) : Int) - 1).toNat = i by omega]; try rfl) ?_
    refine d1 17 81 7 rfl rfl rfl rfl rfl rfl trivial ?_
    refine d1 18 89 8 rfl rfl rfl rfl rfl rfl trivial ?_
    refine d1 19 97 9 rfl rfl rfl rfl rfl rfl (by omega) ?_
    refine d1 20 105 10 rfl rfl rfl rfl rfl rfl (by first | trivial | omega | (simp only [List.length_map, List.length_append, List.length_cons, List.length_nil] at *; omega)) ?_
    refine val 20 (smpS (l.getD (i + 1) default)) rfl rfl ?_
    refine dc1 (mean1_any (meanN l i) (l.getD i default) (l.getD (i + 1) default) (by omega) (hf.near i (by omega)) (hf.near (i + 1) (by omega))) [0] [0] 21 113 11 rfl rfl rfl rfl rfl rfl rfl rfl Tryd.func52 rfl rfl rfl rfl ⟨rfl, trivial⟩ rfl rfl ?_
    refine de1 121 rfl (by kernel_rfl) ?_
    refine bn ?_
    refine tn ?_
    refine r0 ?_
    refine s1 9 121 1 rfl rfl rfl rfl rfl rfl trivial ?_
    refine sA 10 129 2 rfl rfl rfl rfl rfl rfl rfl rfl rfl (by unfold inRange; omega) ?_
    refine s1 4 137 3 rfl rfl rfl rfl rfl rfl trivial ?_
    refine e1 145 rfl ?_
    refine tn ?_
    exact again ((i + 1 : Nat)) [0] (show (i + 1) + 1 ≤ l.length ∨ (i + 1) = 0 from (by omega)) (show l.length - (i + 1) < l.length - i from (by omega)) rfl ⟨rfl, rfl, rfl, trivial⟩ ⟨rfl, trivial⟩
  · skip
    try simp only [decide_eq_true_eq, decide_eq_false_iff_not, Bool.not_eq_true', Bool.not_eq_false', beq_iff_eq, bne_iff_ne, beq_eq_false_iff_ne, Bool.and_eq_true, Bool.or_eq_true, Bool.and_eq_false_iff, Bool.or_eq_false_iff, ge_iff_le, gt_iff_lt, Int.not_lt, Int.not_le, ne_eq, Decidable.not_not, bne_eq_false_iff_eq] at hc1
    refine W_exit ?_
    refine tx ?_
    refine tx ?_
    refine bx ?_
    exact out0 (π := [0]) (hout := [some (.cells 3 1 [SV.i (meanN l (l.length - 1))])]) Tryd.results51 rfl rfl ⟨(by show some (Blk.cells _ _ [SV.i _]) = some (Blk.cells _ _ [SV.i _]); rw [show l.length - 1 = i by omega]), trivial⟩ ⟨rfl, rfl⟩

theorem mean_any (l : List Smp) (hin : SmpIn l) : Spec Tryd.prog GC 20 [smpV l] [] (fun r ho => r = SV.tup [SV.i (meanR l), SV.i (meanT l), SV.i (meanE l)] ∧ ho = []) := by
  refine start 30 0 Tryd.func20 rfl rfl rfl rfl ?_
  refine r1 ?_
  refine s1 2 0 1 rfl rfl rfl rfl rfl rfl trivial ?_
  refine s1 3 8 2 rfl rfl rfl rfl rfl rfl trivial ?_
  refine s1 4 16 3 rfl rfl rfl rfl rfl rfl trivial ?_
  refine e1 24 rfl ?_
  refine keep [0, 2] rfl ?_
  refine W_seq ?_
  refine r1 ?_
  refine s1 6 24 1 rfl rfl rfl rfl rfl rfl trivial ?_
  refine c1 (rfault_any l hin) [] [] 7 32 2 rfl rfl rfl rfl rfl rfl rfl rfl Tryd.func50 rfl rfl rfl rfl trivial rfl rfl ?_
  refine s1 5 40 3 rfl rfl rfl rfl rfl rfl trivial ?_
  refine e1 48 rfl ?_
  refine keep [0, 2, 5] rfl ?_
  refine r1 ?_
  refine s1 8 48 1 rfl rfl rfl rfl rfl rfl trivial ?_
  refine s1 9 56 2 rfl rfl rfl rfl rfl rfl (by first | trivial | omega | (simp only [List.length_map, List.length_append, List.length_cons, List.length_nil] at *; omega)) ?_
  refine e1 64 rfl ?_
  refine keep [0, 2, 5, 9] rfl ?_
  refine q1 rfl (fun hc2 => ?_) (fun hc2 => ?_)
  · skip
    try simp only [decide_eq_true_eq, decide_eq_false_iff_not, Bool.not_eq_true', Bool.not_eq_false', beq_iff_eq, bne_iff_ne, beq_eq_false_iff_ne, Bool.and_eq_true, Bool.or_eq_true, Bool.and_eq_false_iff, Bool.or_eq_false_iff, ge_iff_le, gt_iff_lt, Int.not_lt, Int.not_le, ne_eq, Decidable.not_not, bne_eq_false_iff_eq] at hc2
    refine r1 ?_
    refine s1 10 64 1 rfl rfl rfl rfl rfl rfl trivial ?_
    refine s0 72 2 rfl rfl rfl rfl rfl (by first | trivial | omega | (simp only [List.length_map, List.length_append, List.length_cons, List.length_nil] at *; omega)) ?_
    refine s1 3 80 3 rfl rfl rfl rfl rfl rfl trivial ?_
    refine s1 4 88 4 rfl rfl rfl rfl rfl rfl trivial ?_
    refine e1 96 rfl ?_
    refine keep [2, 3, 4] rfl ?_
    refine W_ret ?_
    refine tr ?_
    exact outN (SV.tup [SV.i (meanR l), SV.i (meanT l), SV.i (meanE l)]) (π := []) (hout := []) Tryd.results20 rfl (by trivial) (by unfold meanR meanT meanE; rw [if_neg (fun h => hc2 h.1), if_neg (fun h => hc2 h.1), if_neg hc2]; try rfl) rfl rfl trivial ⟨rfl, rfl⟩
  · skip
    try simp only [decide_eq_true_eq, decide_eq_false_iff_not, Bool.not_eq_true', Bool.not_eq_false', beq_iff_eq, bne_iff_ne, beq_eq_false_iff_ne, Bool.and_eq_true, Bool.or_eq_true, Bool.and_eq_false_iff, Bool.or_eq_false_iff, ge_iff_le, gt_iff_lt, Int.not_lt, Int.not_le, ne_eq, Decidable.not_not, bne_eq_false_iff_eq] at hc2
    have hf := fine_of hc2
    have hl := hf.len
    refine W_skip ?_
    refine tn ?_
    refine W_seq ?_
    refine r1 ?_
    refine s1 11 64 1 rfl rfl rfl rfl rfl rfl trivial ?_
    refine s1 12 72 2 rfl rfl rfl rfl rfl rfl (by first | trivial | omega | (simp only [List.length_map, List.length_append, List.length_cons, List.length_nil] at *; omega)) ?_
    refine s1 13 80 3 rfl rfl rfl rfl rfl rfl (by first | trivial | omega | (simp only [List.length_map, List.length_append, List.length_cons, List.length_nil] at *; omega)) ?_
    refine e1 88 rfl ?_
    refine keep [0, 2, 13] rfl ?_
    refine q1 rfl (fun hc4 => ?_) (fun hc4 => ?_)
    · skip
      try simp only [decide_eq_true_eq, decide_eq_false_iff_not, Bool.not_eq_true', Bool.not_eq_false', beq_iff_eq, bne_iff_ne, beq_eq_false_iff_ne, Bool.and_eq_true, Bool.or_eq_true, Bool.and_eq_false_iff, Bool.or_eq_false_iff, ge_iff_le, gt_iff_lt, Int.not_lt, Int.not_le, ne_eq, Decidable.not_not, bne_eq_false_iff_eq] at hc4
      refine r1 ?_
      refine s0 88 1 rfl rfl rfl rfl rfl (by first | trivial | omega | (simp only [List.length_map, List.length_append, List.length_cons, List.length_nil] at *; omega)) ?_
      refine s1 3 96 2 rfl rfl rfl rfl rfl rfl trivial ?_
      refine s1 4 104 3 rfl rfl rfl rfl rfl rfl trivial ?_
      refine e1 112 rfl ?_
      refine keep [2, 3, 4] rfl ?_
      refine W_ret ?_
      refine tr ?_
      exact outN (SV.tup [SV.i (meanR l), SV.i (meanT l), SV.i (meanE l)]) (π := []) (hout := []) Tryd.results20 rfl (by trivial) (by unfold meanR meanT meanE; rw [if_neg (by omega), if_neg (by omega), if_pos hc2, if_neg (by omega)]; try rfl) rfl rfl trivial ⟨rfl, rfl⟩
    · skip
      try simp only [decide_eq_true_eq, decide_eq_false_iff_not, Bool.not_eq_true', Bool.not_eq_false', beq_iff_eq, bne_iff_ne, beq_eq_false_iff_ne, Bool.and_eq_true, Bool.or_eq_true, Bool.and_eq_false_iff, Bool.or_eq_false_iff, ge_iff_le, gt_iff_lt, Int.not_lt, Int.not_le, ne_eq, Decidable.not_not, bne_eq_false_iff_eq] at hc4
      have n1 := (hf.near (l.length - 1) (by omega)).1
      have n2 := (hf.near 0 (by omega)).1
      refine W_skip ?_
      refine tn ?_
      refine r1 ?_
      refine s1 14 88 1 rfl rfl rfl rfl rfl rfl trivial ?_
      refine s1 15 96 2 rfl rfl rfl rfl rfl rfl trivial ?_
      refine c1 (pairsMean_any l hf) [0] [0] 16 104 3 rfl rfl rfl rfl rfl rfl rfl rfl Tryd.func51 rfl rfl rfl rfl ⟨rfl, trivial⟩ rfl rfl ?_
      refine e1 112 rfl ?_
      refine keep [0, 2] rfl ?_
      refine rd1 rfl ?_
      refine d1 17 112 1 rfl rfl rfl rfl rfl rfl (by first | trivial | omega | (simp only [List.length_map, List.length_append, List.length_cons, List.length_nil] at *; omega)) ?_
      refine d1 18 120 2 rfl rfl rfl rfl rfl rfl trivial ?_
      refine d1 19 128 3 rfl rfl rfl rfl rfl rfl trivial ?_
      refine d1 20 136 4 rfl rfl rfl rfl rfl rfl (by first | trivial | omega | (simp only [List.length_map, List.length_append, List.length_cons, List.length_nil] at *; omega)) ?_
      refine dA 21 144 5 rfl rfl rfl rfl rfl rfl rfl rfl rfl (by unfold inRange; omega) ?_
      refine d1 22 152 6 rfl rfl rfl rfl rfl rfl (by first | trivial | omega | (simp only [List.length_map, List.length_append, List.length_cons, List.length_nil] at *; omega)) ?_
      refine d1 23 160 7 rfl rfl rfl rfl rfl rfl trivial ?_
      refine d1 24 168 8 rfl rfl rfl rfl rfl rfl (by first | trivial | omega | (simp only [List.length_map, List.length_append, List.length_cons, List.length_nil] at *; omega)) ?_
      refine val 24 (SV.i (l.getD (l.length - 1) default).t) rfl (by rw [show ((l.length : Int) - 1).toNat = l.length - 1 by omega]) ?_
      refine d1 25 176 9 rfl rfl rfl rfl rfl rfl trivial ?_
      refine d1 26 184 10 rfl rfl rfl rfl rfl rfl (by first | trivial | omega | (simp only [List.length_map, List.length_append, List.length_cons, List.length_nil] at *; omega)) ?_
      refine d1 27 192 11 rfl rfl rfl rfl rfl rfl trivial ?_
      refine d1 28 200 12 rfl rfl rfl rfl rfl rfl (by first | trivial | omega | (simp only [List.length_map, List.length_append, List.length_cons, List.length_nil] at *; omega)) ?_
      refine val 28 (SV.i (l.getD 0 default).t) rfl rfl ?_
      refine dA 29 208 13 rfl rfl rfl rfl rfl rfl rfl rfl rfl (by unfold inRange; omega) ?_
      refine d0 216 14 rfl rfl rfl rfl rfl (by first | trivial | omega | (simp only [List.length_map, List.length_append, List.length_cons, List.length_nil] at *; omega)) ?_
      refine d1 3 224 15 rfl rfl rfl rfl rfl rfl trivial ?_
      refine d1 4 232 16 rfl rfl rfl rfl rfl rfl trivial ?_
      refine de1 240 rfl (by kernel_rfl) ?_
      refine keep [2, 3, 4] rfl ?_
      refine W_ret ?_
      exact outN (SV.tup [SV.i (meanR l), SV.i (meanT l), SV.i (meanE l)]) (π := []) (hout := []) Tryd.results20 rfl (by trivial) (by unfold meanR meanT meanE; rw [if_pos ⟨hc2, by omega⟩, if_pos ⟨hc2, by omega⟩, if_pos hc2, if_pos (by omega)]; try rfl) rfl rfl trivial ⟨rfl, rfl⟩

theorem refMean_any (l : List Smp) (hin : SmpIn l) : Spec Tryd.prog GC 21 [smpV l] [] (fun r ho => r = SV.tup [SV.i (meanR l), SV.i (meanT l), SV.i (meanE l)] ∧ ho = []) := by
  refine start 51 0 Tryd.func21 rfl rfl rfl rfl ?_
  refine r1 ?_
  refine s1 2 0 1 rfl rfl rfl rfl rfl rfl trivial ?_
  refine s1 3 8 2 rfl rfl rfl rfl rfl rfl trivial ?_
  refine s1 4 16 3 rfl rfl rfl rfl rfl rfl trivial ?_
  refine e1 24 rfl ?_
  refine keep [0] rfl ?_
  refine W_seq ?_
  refine r1 ?_
  refine s1 10 24 1 rfl rfl rfl rfl rfl rfl trivial ?_
  refine c1 (refFault_any l hin) [] [] 11 32 2 rfl rfl rfl rfl rfl rfl rfl rfl Tryd.func53 rfl rfl rfl rfl trivial rfl rfl ?_
  refine s1 5 40 3 rfl rfl rfl rfl rfl rfl trivial ?_
  refine e1 48 rfl ?_
  refine keep [0, 5] rfl ?_
  refine r1 ?_
  refine s1 12 48 1 rfl rfl rfl rfl rfl rfl trivial ?_
  refine s1 13 56 2 rfl rfl rfl rfl rfl rfl (by first | trivial | omega | (simp only [List.length_map, List.length_append, List.length_cons, List.length_nil] at *; omega)) ?_
  refine e1 64 rfl ?_
  refine keep [0, 5, 13] rfl ?_
  refine q1 rfl (fun hc2 => ?_) (fun hc2 => ?_)
  · skip
    try simp only [decide_eq_true_eq, decide_eq_false_iff_not, Bool.not_eq_true', Bool.not_eq_false', beq_iff_eq, bne_iff_ne, beq_eq_false_iff_ne, Bool.and_eq_true, Bool.or_eq_true, Bool.and_eq_false_iff, Bool.or_eq_false_iff, ge_iff_le, gt_iff_lt, Int.not_lt, Int.not_le, ne_eq, Decidable.not_not, bne_eq_false_iff_eq] at hc2
    refine r1 ?_
    refine s1 14 64 1 rfl rfl rfl rfl rfl rfl trivial ?_
    refine s1 2 72 2 rfl rfl rfl rfl rfl rfl trivial ?_
    refine s1 3 80 3 rfl rfl rfl rfl rfl rfl trivial ?_
    refine s1 4 88 4 rfl rfl rfl rfl rfl rfl trivial ?_
    refine e1 96 rfl ?_
    refine keep [2, 3, 4] rfl ?_
    refine W_ret ?_
    refine tr ?_
    exact out3 2 3 4 (SV.i (meanR l)) (SV.i (meanT l)) (SV.i (meanE l)) (π := []) (hout := []) Tryd.results21 rfl rfl rfl (by unfold meanR; rw [if_neg (fun h => hc2 h.1)]; try rfl) (by unfold meanT; rw [if_neg (fun h => hc2 h.1)]; try rfl) (by unfold meanE; rw [if_neg hc2]; try rfl) rfl rfl trivial ⟨rfl, rfl⟩
  · skip
    try simp only [decide_eq_true_eq, decide_eq_false_iff_not, Bool.not_eq_true', Bool.not_eq_false', beq_iff_eq, bne_iff_ne, beq_eq_false_iff_ne, Bool.and_eq_true, Bool.or_eq_true, Bool.and_eq_false_iff, Bool.or_eq_false_iff, ge_iff_le, gt_iff_lt, Int.not_lt, Int.not_le, ne_eq, Decidable.not_not, bne_eq_false_iff_eq] at hc2
    have hf := fine_of hc2
    have hl := hf.len
    refine W_skip ?_
    refine tn ?_
    refine W_seq ?_
    refine r1 ?_
    refine s1 15 64 1 rfl rfl rfl rfl rfl rfl trivial ?_
    refine s1 16 72 2 rfl rfl rfl rfl rfl rfl (by first | trivial | omega | (simp only [List.length_map, List.length_append, List.length_cons, List.length_nil] at *; omega)) ?_
    refine s1 17 80 3 rfl rfl rfl rfl rfl rfl (by first | trivial | omega | (simp only [List.length_map, List.length_append, List.length_cons, List.length_nil] at *; omega)) ?_
    refine e1 88 rfl ?_
    refine keep [0, 17] rfl ?_
    refine q1 rfl (fun hc4 => ?_) (fun hc4 => ?_)
    · skip
      try simp only [decide_eq_true_eq, decide_eq_false_iff_not, Bool.not_eq_true', Bool.not_eq_false', beq_iff_eq, bne_iff_ne, beq_eq_false_iff_ne, Bool.and_eq_true, Bool.or_eq_true, Bool.and_eq_false_iff, Bool.or_eq_false_iff, ge_iff_le, gt_iff_lt, Int.not_lt, Int.not_le, ne_eq, Decidable.not_not, bne_eq_false_iff_eq] at hc4
      refine r1 ?_
      refine s1 2 88 1 rfl rfl rfl rfl rfl rfl trivial ?_
      refine s1 3 96 2 rfl rfl rfl rfl rfl rfl trivial ?_
      refine s1 4 104 3 rfl rfl rfl rfl rfl rfl trivial ?_
      refine e1 112 rfl ?_
      refine keep [2, 3, 4] rfl ?_
      refine W_ret ?_
      refine tr ?_
      exact out3 2 3 4 (SV.i (meanR l)) (SV.i (meanT l)) (SV.i (meanE l)) (π := []) (hout := []) Tryd.results21 rfl rfl rfl (by unfold meanR; rw [if_neg (by omega)]; try rfl) (by unfold meanT; rw [if_neg (by omega)]; try rfl) (by unfold meanE; rw [if_pos hc2, if_neg (by omega)]; try rfl) rfl rfl trivial ⟨rfl, rfl⟩
    · skip
      try simp only [decide_eq_true_eq, decide_eq_false_iff_not, Bool.not_eq_true', Bool.not_eq_false', beq_iff_eq, bne_iff_ne, beq_eq_false_iff_ne, Bool.and_eq_true, Bool.or_eq_true, Bool.and_eq_false_iff, Bool.or_eq_false_iff, ge_iff_le, gt_iff_lt, Int.not_lt, Int.not_le, ne_eq, Decidable.not_not, bne_eq_false_iff_eq] at hc4
      refine W_skip ?_
      refine tn ?_
      refine r1 ?_
      refine s1 6 88 1 rfl rfl rfl rfl rfl rfl trivial ?_
      refine e1 96 rfl ?_
      refine keep [0, 6] rfl ?_
      refine r1 ?_
      refine s1 7 96 1 rfl rfl rfl rfl rfl rfl trivial ?_
      refine e1 104 rfl ?_
      refine keep [0, 6, 7] rfl ?_
      refine W_seq ?_
      refine r1 ?_
      refine s1 8 104 1 rfl rfl rfl rfl rfl rfl trivial ?_
      refine e1 112 rfl ?_
      refine keep [0, 6, 7, 8] rfl ?_
      refine W_block ?_
      refine loop (α := Nat × Int × Int) 0 (fun z => [(0, smpV l), (6, SV.i (z.2.1)), (7, SV.i (z.2.2)), (8, SV.i (z.1))]) (fun z => []) (fun z => (z.1) + 1 ≤ l.length ∧ (z.2.1) = meanN l (z.1) ∧ (z.2.2) = (l.getD (z.1) default).t - (l.getD 0 default).t) (fun z => l.length - (z.1)) (((0, 0, 0) : Nat × Int × Int)) [] (fun _ => rfl) (show (0) + 1 ≤ l.length ∧ (0) = meanN l (0) ∧ (0) = (l.getD (0) default).t - (l.getD 0 default).t from ⟨by omega, rfl, by omega⟩) rfl ⟨rfl, rfl, rfl, rfl, trivial⟩ trivial (fun z hx => ?_)
      obtain ⟨i, sm, tm⟩ := z
      show W _ _ _ ⟨tOf [(0, smpV l), (6, SV.i sm), (7, SV.i tm), (8, SV.i i)], hOf [], 0⟩
      have hx : i + 1 ≤ l.length ∧ sm = meanN l i ∧ tm = (l.getD i default).t - (l.getD 0 default).t := hx
      obtain ⟨hx, hs, ht⟩ := hx
      have hbd := mean_bd hf i (.inl hx)
      rw [← hs] at hbd
      have n0 := (hf.near 0 (by omega)).1
      have n1 := hf.near i (by omega)
      refine W_seq ?_
      refine r1 ?_
      refine s1 18 0 1 rfl rfl rfl rfl rfl rfl trivial ?_
      refine sA 19 8 2 rfl rfl rfl rfl rfl rfl rfl rfl rfl (by unfold inRange; omega) ?_
      refine s1 20 16 3 rfl rfl rfl rfl rfl rfl trivial ?_
      refine s1 21 24 4 rfl rfl rfl rfl rfl rfl (by first | trivial | omega | (simp only [List.length_map, List.length_append, List.length_cons, List.length_nil] at *; omega)) ?_
      refine s1 22 32 5 rfl rfl rfl rfl rfl rfl (by first | trivial | omega | (simp only [List.length_map, List.length_append, List.length_cons, List.length_nil] at *; omega)) ?_
      refine e1 40 rfl ?_
      refine keep [0, 6, 7, 8, 22] rfl ?_
      refine q1 rfl (fun hc9 => ?_) (fun hc9 => ?_)
      · skip
        try simp only [decide_eq_true_eq, decide_eq_false_iff_not, Bool.not_eq_true', Bool.not_eq_false', beq_iff_eq, bne_iff_ne, beq_eq_false_iff_ne, Bool.and_eq_true, Bool.or_eq_true, Bool.and_eq_false_iff, Bool.or_eq_false_iff, ge_iff_le, gt_iff_lt, Int.not_lt, Int.not_le, ne_eq, Decidable.not_not, bne_eq_false_iff_eq] at hc9
        have n2 := (hf.near (i + 1) (by omega)).1
        have hm := mean_one n1 n2
        rw [Int.mul_comm] at hm
        refine W_skip ?_
        refine tn ?_
        refine W_seq ?_
        refine W_block ?_
        refine rd1 rfl ?_
        refine d1 25 40 1 rfl rfl rfl rfl rfl rfl trivial ?_
        refine d1 26 48 2 rfl rfl rfl rfl rfl rfl trivial ?_
        refine dA 27 56 3 rfl rfl rfl rfl rfl rfl rfl rfl rfl (by unfold inRange; omega) ?_
        refine d1 28 64 4 rfl rfl rfl rfl rfl rfl (by omega) ?_
        refine d1 29 72 5 rfl rfl rfl rfl rfl rfl trivial ?_
        refine d1 30 80 6 rfl rfl rfl rfl rfl rfl (by first | trivial | omega | (simp only [List.length_map, List.length_append, List.length_cons, List.length_nil] at *; omega)) ?_
        refine val 30 (SV.i (l.getD (i + 1) default).t) rfl (by rw [show ((i : Int) + 1).toNat = i + 1 by omega]) ?_
        refine d1 31 88 7 rfl rfl rfl rfl rfl rfl trivial ?_
        refine d1 32 96 8 rfl rfl rfl rfl rfl rfl trivial ?_
        refine d1 33 104 9 rfl rfl rfl rfl rfl rfl (by first | trivial | omega | (simp only [List.length_map, List.length_append, List.length_cons, List.length_nil] at *; omega)) ?_
        refine d1 34 112 10 rfl rfl rfl rfl rfl rfl trivial ?_
        refine d1 35 120 11 rfl rfl rfl rfl rfl rfl (by first | trivial | omega | (simp only [List.length_map, List.length_append, List.length_cons, List.length_nil] at *; omega)) ?_
        refine val 35 (SV.i (l.getD i default).t) rfl rfl ?_
        refine dA 36 128 12 rfl rfl rfl rfl rfl rfl rfl rfl rfl (by unfold inRange; omega) ?_
        refine d1 9 136 13 rfl rfl rfl rfl rfl rfl trivial ?_
        refine de1 144 rfl (by kernel_rfl) ?_
        refine keep [0, 6, 7, 8, 9] rfl ?_
        refine r1 ?_
        refine s1 37 144 1 rfl rfl rfl rfl rfl rfl trivial ?_
        refine s1 38 152 2 rfl rfl rfl rfl rfl rfl trivial ?_
        refine s1 39 160 3 rfl rfl rfl rfl rfl rfl trivial ?_
        refine s1 40 168 4 rfl rfl rfl rfl rfl rfl trivial ?_
        refine s1 41 176 5 rfl rfl rfl rfl rfl rfl (by first | trivial | omega | (simp only [List.length_map, List.length_append, List.length_cons, List.length_nil] at *; omega)) ?_
        refine s1 42 184 6 rfl rfl rfl rfl rfl rfl trivial ?_
        refine s1 43 192 7 rfl rfl rfl rfl rfl rfl (by first | trivial | omega | (simp only [List.length_map, List.length_append, List.length_cons, List.length_nil] at *; omega)) ?_
        refine val 43 (SV.i (l.getD i default).v) rfl rfl ?_
        refine sA 44 200 8 rfl rfl rfl rfl rfl rfl rfl rfl rfl (by unfold inRange; omega) ?_
        refine sA 45 208 9 rfl rfl rfl rfl rfl rfl rfl rfl rfl (by unfold inRange; omega) ?_
        refine s1 6 216 10 rfl rfl rfl rfl rfl rfl trivial ?_
        refine e1 224 rfl ?_
        refine keep [0, 6, 7, 8, 9] rfl ?_
        refine r0 ?_
        refine s1 46 224 1 rfl rfl rfl rfl rfl rfl trivial ?_
        refine s1 47 232 2 rfl rfl rfl rfl rfl rfl trivial ?_
        refine sA 48 240 3 rfl rfl rfl rfl rfl rfl rfl rfl rfl (by unfold inRange; omega) ?_
        refine s1 7 248 4 rfl rfl rfl rfl rfl rfl trivial ?_
        refine e1 256 rfl ?_
        refine bn ?_
        refine tn ?_
        refine r0 ?_
        refine s1 23 256 1 rfl rfl rfl rfl rfl rfl trivial ?_
        refine sA 24 264 2 rfl rfl rfl rfl rfl rfl rfl rfl rfl (by unfold inRange; omega) ?_
        refine s1 8 272 3 rfl rfl rfl rfl rfl rfl trivial ?_
        refine e1 280 rfl ?_
        refine tn ?_
        exact again (((i + 1, sm + ((l.getD (i + 1) default).t - (l.getD i default).t) * (l.getD i default).v, tm + ((l.getD (i + 1) default).t - (l.getD i default).t)) : Nat × Int × Int)) [] (show (i + 1) + 1 ≤ l.length ∧ (sm + ((l.getD (i + 1) default).t - (l.getD i default).t) * (l.getD i default).v) = meanN l (i + 1) ∧ (tm + ((l.getD (i + 1) default).t - (l.getD i default).t)) = (l.getD (i + 1) default).t - (l.getD 0 default).t from ⟨by omega, by show _ = meanS _ _ _; unfold meanS; rw [hs, Int.mul_comm], by rw [ht]; omega⟩) (show l.length - (i + 1) < l.length - i from (by omega)) rfl ⟨rfl, rfl, rfl, rfl, trivial⟩ trivial
      · skip
        try simp only [decide_eq_true_eq, decide_eq_false_iff_not, Bool.not_eq_true', Bool.not_eq_false', beq_iff_eq, bne_iff_ne, beq_eq_false_iff_ne, Bool.and_eq_true, Bool.or_eq_true, Bool.and_eq_false_iff, Bool.or_eq_false_iff, ge_iff_le, gt_iff_lt, Int.not_lt, Int.not_le, ne_eq, Decidable.not_not, bne_eq_false_iff_eq] at hc9
        refine W_exit ?_
        refine tx ?_
        refine tx ?_
        refine bx ?_
        refine tn ?_
        refine r1 ?_
        refine s1 49 40 1 rfl rfl rfl rfl rfl rfl trivial ?_
        refine s1 50 48 2 rfl rfl rfl rfl rfl rfl trivial ?_
        refine s1 2 56 3 rfl rfl rfl rfl rfl rfl trivial ?_
        refine s1 3 64 4 rfl rfl rfl rfl rfl rfl trivial ?_
        refine s1 4 72 5 rfl rfl rfl rfl rfl rfl trivial ?_
        refine e1 80 rfl ?_
        refine keep [2, 3, 4] rfl ?_
        refine W_ret ?_
        exact out3 2 3 4 (SV.i (meanR l)) (SV.i (meanT l)) (SV.i (meanE l)) (π := []) (hout := []) Tryd.results21 rfl rfl rfl (by unfold meanR; rw [if_pos ⟨hc2, by omega⟩, show l.length - 1 = i by omega, ← hs]; try rfl) (by unfold meanT; rw [if_pos ⟨hc2, by omega⟩, show l.length - 1 = i by omega, ← ht]; try rfl) (by unfold meanE; rw [if_pos hc2, if_pos (by omega)]; try rfl) rfl rfl trivial ⟨rfl, rfl⟩

theorem lawRateRises_any (l : List Smp) (hin : SmpIn l) : Spec Tryd.prog GC 8 [smpV l] [] (fun r _ => r = SV.b true) := by
  refine start 25 0 Tryd.func8 rfl rfl rfl rfl ?_
  refine r1 ?_
  refine s1 2 0 1 rfl rfl rfl rfl rfl rfl trivial ?_
  refine e1 8 rfl ?_
  refine keep [0] rfl ?_
  refine r1 ?_
  refine s1 8 8 1 rfl rfl rfl rfl rfl rfl trivial ?_
  refine c1 (rise_any l hin) [] [] 9 16 2 rfl rfl rfl rfl rfl rfl rfl rfl Tryd.func22 rfl rfl rfl rfl trivial rfl rfl ?_
  refine s1 7 24 3 rfl rfl rfl rfl rfl rfl trivial ?_
  refine s1 10 32 4 rfl rfl rfl rfl rfl rfl trivial ?_
  refine s1 11 40 5 rfl rfl rfl rfl rfl rfl trivial ?_
  refine s1 3 48 6 rfl rfl rfl rfl rfl rfl trivial ?_
  refine s1 4 56 7 rfl rfl rfl rfl rfl rfl trivial ?_
  refine e1 64 rfl ?_
  refine keep [0, 3, 4] rfl ?_
  refine r1 ?_
  refine s1 13 64 1 rfl rfl rfl rfl rfl rfl trivial ?_
  refine c1 (refRise_any l hin) [] [] 14 72 2 rfl rfl rfl rfl rfl rfl rfl rfl Tryd.func23 rfl rfl rfl rfl trivial rfl rfl ?_
  refine s1 12 80 3 rfl rfl rfl rfl rfl rfl trivial ?_
  refine s1 15 88 4 rfl rfl rfl rfl rfl rfl trivial ?_
  refine s1 16 96 5 rfl rfl rfl rfl rfl rfl trivial ?_
  refine s1 5 104 6 rfl rfl rfl rfl rfl rfl trivial ?_
  refine s1 6 112 7 rfl rfl rfl rfl rfl rfl trivial ?_
  refine e1 120 rfl ?_
  refine keep [3, 4, 5, 6] rfl ?_
  refine r1 ?_
  refine s1 17 120 1 rfl rfl rfl rfl rfl rfl trivial ?_
  refine s1 18 128 2 rfl rfl rfl rfl rfl rfl trivial ?_
  refine s1 19 136 3 rfl rfl rfl rfl rfl rfl (by first | trivial | omega | (simp only [List.length_map, List.length_append, List.length_cons, List.length_nil] at *; omega)) ?_
  refine s1 20 144 4 rfl rfl rfl rfl rfl rfl trivial ?_
  refine ask 20 rfl (fun hg3_20 => ?_) (fun hg3_20 => ?_)
  · skip
    try simp only [decide_eq_true_eq, decide_eq_false_iff_not, Bool.not_eq_true', Bool.not_eq_false', beq_iff_eq, bne_iff_ne, beq_eq_false_iff_ne, Bool.and_eq_true, Bool.or_eq_true, Bool.and_eq_false_iff, Bool.or_eq_false_iff, ge_iff_le, gt_iff_lt, Int.not_lt, Int.not_le, ne_eq, Decidable.not_not, bne_eq_false_iff_eq] at hg3_20
    refine g1 3 true 20 21 5 rfl rfl rfl rfl rfl ?_
    refine s1 21 152 5 rfl rfl rfl rfl rfl rfl trivial ?_
    refine g1 3 true 20 22 6 rfl rfl rfl rfl rfl ?_
    refine s1 22 160 6 rfl rfl rfl rfl rfl rfl trivial ?_
    refine g1 3 true 20 23 7 rfl rfl rfl rfl rfl ?_
    refine s1 23 168 7 rfl rfl rfl rfl rfl rfl (by first | trivial | omega | (simp only [List.length_map, List.length_append, List.length_cons, List.length_nil] at *; omega)) ?_
    refine s1 24 176 8 rfl rfl rfl rfl rfl rfl trivial ?_
    refine s1 2 184 9 rfl rfl rfl rfl rfl rfl trivial ?_
    refine e1 192 rfl ?_
    refine keep [2] rfl ?_
    refine W_ret ?_
    exact out1 2 (SV.b true) (π := []) (hout := []) Tryd.results8 rfl (by first | rfl | (simp; done) | (simp; rfl) | (simp [*]; rfl)) rfl rfl trivial rfl
  · skip
    try simp only [decide_eq_true_eq, decide_eq_false_iff_not, Bool.not_eq_true', Bool.not_eq_false', beq_iff_eq, bne_iff_ne, beq_eq_false_iff_ne, Bool.and_eq_true, Bool.or_eq_true, Bool.and_eq_false_iff, Bool.or_eq_false_iff, ge_iff_le, gt_iff_lt, Int.not_lt, Int.not_le, ne_eq, Decidable.not_not, bne_eq_false_iff_eq] at hg3_20
    all_goals (exfalso; first | (simp at hg3_20; done) | (simp at hg3_20; omega) | (simp_all; omega) | omega)

theorem lawRateMeans_any (l : List Smp) (hin : SmpIn l) : Spec Tryd.prog GC 7 [smpV l] [] (fun r _ => r = SV.b true) := by
  refine start 34 0 Tryd.func7 rfl rfl rfl rfl ?_
  refine r1 ?_
  refine s1 2 0 1 rfl rfl rfl rfl rfl rfl trivial ?_
  refine e1 8 rfl ?_
  refine keep [0] rfl ?_
  refine r1 ?_
  refine s1 10 8 1 rfl rfl rfl rfl rfl rfl trivial ?_
  refine c1 (mean_any l hin) [] [] 11 16 2 rfl rfl rfl rfl rfl rfl rfl rfl Tryd.func20 rfl rfl rfl rfl trivial rfl rfl ?_
  refine s1 9 24 3 rfl rfl rfl rfl rfl rfl trivial ?_
  refine s1 12 32 4 rfl rfl rfl rfl rfl rfl trivial ?_
  refine s1 13 40 5 rfl rfl rfl rfl rfl rfl trivial ?_
  refine s1 14 48 6 rfl rfl rfl rfl rfl rfl trivial ?_
  refine s1 3 56 7 rfl rfl rfl rfl rfl rfl trivial ?_
  refine s1 4 64 8 rfl rfl rfl rfl rfl rfl trivial ?_
  refine s1 5 72 9 rfl rfl rfl rfl rfl rfl trivial ?_
  refine e1 80 rfl ?_
  refine keep [0, 3, 4, 5] rfl ?_
  refine r1 ?_
  refine s1 16 80 1 rfl rfl rfl rfl rfl rfl trivial ?_
  refine c1 (refMean_any l hin) [] [] 17 88 2 rfl rfl rfl rfl rfl rfl rfl rfl Tryd.func21 rfl rfl rfl rfl trivial rfl rfl ?_
  refine s1 15 96 3 rfl rfl rfl rfl rfl rfl trivial ?_
  refine s1 18 104 4 rfl rfl rfl rfl rfl rfl trivial ?_
  refine s1 19 112 5 rfl rfl rfl rfl rfl rfl trivial ?_
  refine s1 20 120 6 rfl rfl rfl rfl rfl rfl trivial ?_
  refine s1 6 128 7 rfl rfl rfl rfl rfl rfl trivial ?_
  refine s1 7 136 8 rfl rfl rfl rfl rfl rfl trivial ?_
  refine s1 8 144 9 rfl rfl rfl rfl rfl rfl trivial ?_
  refine e1 152 rfl ?_
  refine keep [3, 4, 5, 6, 7, 8] rfl ?_
  refine r1 ?_
  refine s1 21 152 1 rfl rfl rfl rfl rfl rfl trivial ?_
  refine s1 22 160 2 rfl rfl rfl rfl rfl rfl trivial ?_
  refine s1 23 168 3 rfl rfl rfl rfl rfl rfl (by first | trivial | omega | (simp only [List.length_map, List.length_append, List.length_cons, List.length_nil] at *; omega)) ?_
  refine s1 24 176 4 rfl rfl rfl rfl rfl rfl trivial ?_
  refine ask 24 rfl (fun hg3_24 => ?_) (fun hg3_24 => ?_)
  · skip
    try simp only [decide_eq_true_eq, decide_eq_false_iff_not, Bool.not_eq_true', Bool.not_eq_false', beq_iff_eq, bne_iff_ne, beq_eq_false_iff_ne, Bool.and_eq_true, Bool.or_eq_true, Bool.and_eq_false_iff, Bool.or_eq_false_iff, ge_iff_le, gt_iff_lt, Int.not_lt, Int.not_le, ne_eq, Decidable.not_not, bne_eq_false_iff_eq] at hg3_24
    refine g1 3 true 24 25 5 rfl rfl rfl rfl rfl ?_
    refine s1 25 184 5 rfl rfl rfl rfl rfl rfl trivial ?_
    refine g1 3 true 24 26 6 rfl rfl rfl rfl rfl ?_
    refine s1 26 192 6 rfl rfl rfl rfl rfl rfl trivial ?_
    refine g1 3 true 24 27 7 rfl rfl rfl rfl rfl ?_
    refine s1 27 200 7 rfl rfl rfl rfl rfl rfl (by first | trivial | omega | (simp only [List.length_map, List.length_append, List.length_cons, List.length_nil] at *; omega)) ?_
    refine s1 28 208 8 rfl rfl rfl rfl rfl rfl trivial ?_
    refine s1 29 216 9 rfl rfl rfl rfl rfl rfl trivial ?_
    refine ask 29 rfl (fun hg3_29 => ?_) (fun hg3_29 => ?_)
    · skip
      try simp only [decide_eq_true_eq, decide_eq_false_iff_not, Bool.not_eq_true', Bool.not_eq_false', beq_iff_eq, bne_iff_ne, beq_eq_false_iff_ne, Bool.and_eq_true, Bool.or_eq_true, Bool.and_eq_false_iff, Bool.or_eq_false_iff, ge_iff_le, gt_iff_lt, Int.not_lt, Int.not_le, ne_eq, Decidable.not_not, bne_eq_false_iff_eq] at hg3_29
      refine g1 8 true 29 30 10 rfl rfl rfl rfl rfl ?_
      refine s1 30 224 10 rfl rfl rfl rfl rfl rfl trivial ?_
      refine g1 8 true 29 31 11 rfl rfl rfl rfl rfl ?_
      refine s1 31 232 11 rfl rfl rfl rfl rfl rfl trivial ?_
      refine g1 8 true 29 32 12 rfl rfl rfl rfl rfl ?_
      refine s1 32 240 12 rfl rfl rfl rfl rfl rfl (by first | trivial | omega | (simp only [List.length_map, List.length_append, List.length_cons, List.length_nil] at *; omega)) ?_
      refine s1 33 248 13 rfl rfl rfl rfl rfl rfl trivial ?_
      refine s1 2 256 14 rfl rfl rfl rfl rfl rfl trivial ?_
      refine e1 264 rfl ?_
      refine keep [2] rfl ?_
      refine W_ret ?_
      exact out1 2 (SV.b true) (π := []) (hout := []) Tryd.results7 rfl (by first | rfl | (simp; done) | (simp; rfl) | (simp [*]; rfl)) rfl rfl trivial rfl
    · skip
      try simp only [decide_eq_true_eq, decide_eq_false_iff_not, Bool.not_eq_true', Bool.not_eq_false', beq_iff_eq, bne_iff_ne, beq_eq_false_iff_ne, Bool.and_eq_true, Bool.or_eq_true, Bool.and_eq_false_iff, Bool.or_eq_false_iff, ge_iff_le, gt_iff_lt, Int.not_lt, Int.not_le, ne_eq, Decidable.not_not, bne_eq_false_iff_eq] at hg3_29
      all_goals (exfalso; first | (simp at hg3_29; done) | (simp at hg3_29; omega) | (simp_all; omega) | omega)
  · skip
    try simp only [decide_eq_true_eq, decide_eq_false_iff_not, Bool.not_eq_true', Bool.not_eq_false', beq_iff_eq, bne_iff_ne, beq_eq_false_iff_ne, Bool.and_eq_true, Bool.or_eq_true, Bool.and_eq_false_iff, Bool.or_eq_false_iff, ge_iff_le, gt_iff_lt, Int.not_lt, Int.not_le, ne_eq, Decidable.not_not, bne_eq_false_iff_eq] at hg3_24
    all_goals (exfalso; first | (simp at hg3_24; done) | (simp at hg3_24; omega) | (simp_all; omega) | omega)

end Go.Proofs.YtiedndnegmbkiaaDoor.Nice
