/- The codes of package lock, and the law LockCodes. -/
import Derived.Test.YtghnikahahbleaaDoorCodeMay
namespace Go.Proofs.YtghnikahahbleaaDoor.Nice
open Go
set_option linter.unusedVariables false
set_option linter.unusedSimpArgs false
set_option maxRecDepth 100000
set_option maxHeartbeats 4000000
abbrev st_has : ByteArray := ⟨#[104, 97, 115]⟩
abbrev st_j : ByteArray := ⟨#[106]⟩
abbrev st_less : ByteArray := ⟨#[108, 101, 115, 115]⟩
abbrev st_me : ByteArray := ⟨#[109, 101]⟩
abbrev st_mine : ByteArray := ⟨#[109, 105, 110, 101]⟩
abbrev st_more : ByteArray := ⟨#[109, 111, 114, 101]⟩
abbrev st_next : ByteArray := ⟨#[110, 101, 120, 116]⟩
abbrev st_one : ByteArray := ⟨#[111, 110, 101]⟩
abbrev st_other : ByteArray := ⟨#[111, 116, 104, 101, 114]⟩
abbrev st_same : ByteArray := ⟨#[115, 97, 109, 101]⟩
abbrev st_takes : ByteArray := ⟨#[116, 97, 107, 101, 115]⟩
abbrev st_zero : ByteArray := ⟨#[122, 101, 114, 111]⟩
theorem may_any (threads : Int) : Spec Tryd.prog GV 30 [SV.i threads] [] (fun r ho => r = SV.b ((decide (1 ≤ threads) && decide (threads ≤ 4))) ∧ ho = []) := by
  refine start 9 0 Tryd.func30 rfl rfl rfl rfl ?_
  refine r1 ?_
  refine s1 2 0 1 rfl rfl rfl rfl rfl rfl trivial ?_
  refine e1 8 rfl ?_
  refine keep [0] rfl ?_
  refine r1 ?_
  refine s1 3 8 1 rfl rfl rfl rfl rfl rfl trivial ?_
  refine s1 4 16 2 rfl rfl rfl rfl rfl rfl (by first | trivial | omega | (simp only [List.length_map, List.length_append, List.length_cons, List.length_nil] at *; omega)) ?_
  refine s1 5 24 3 rfl rfl rfl rfl rfl rfl trivial ?_
  refine ask 5 rfl (fun hg1_5 => ?_) (fun hg1_5 => ?_)
  · skip
    try simp only [decide_eq_true_eq, decide_eq_false_iff_not, Bool.not_eq_true', Bool.not_eq_false', beq_iff_eq, bne_iff_ne, beq_eq_false_iff_ne, Bool.and_eq_true, Bool.or_eq_true, Bool.and_eq_false_iff, Bool.or_eq_false_iff, ge_iff_le, gt_iff_lt, Int.not_lt, Int.not_le, ne_eq, Decidable.not_not, bne_eq_false_iff_eq] at hg1_5
    refine g1 2 true 5 6 4 rfl rfl rfl rfl rfl ?_
    refine s1 6 32 4 rfl rfl rfl rfl rfl rfl trivial ?_
    refine g1 2 true 5 7 5 rfl rfl rfl rfl rfl ?_
    refine s1 7 40 5 rfl rfl rfl rfl rfl rfl (by first | trivial | omega | (simp only [List.length_map, List.length_append, List.length_cons, List.length_nil] at *; omega)) ?_
    refine s1 8 48 6 rfl rfl rfl rfl rfl rfl trivial ?_
    refine s1 2 56 7 rfl rfl rfl rfl rfl rfl trivial ?_
    refine e1 64 rfl ?_
    refine keep [2] rfl ?_
    refine W_ret ?_
    exact out1 2 (SV.b ((decide (1 ≤ threads) && decide (threads ≤ 4)))) (π := []) (hout := []) Tryd.results30 rfl (by show SV.b _ = SV.b _; refine congrArg SV.b (Bool.eq_iff_iff.2 ?_); simp at *; try omega) rfl rfl trivial ⟨rfl, rfl⟩
  · skip
    try simp only [decide_eq_true_eq, decide_eq_false_iff_not, Bool.not_eq_true', Bool.not_eq_false', beq_iff_eq, bne_iff_ne, beq_eq_false_iff_ne, Bool.and_eq_true, Bool.or_eq_true, Bool.and_eq_false_iff, Bool.or_eq_false_iff, ge_iff_le, gt_iff_lt, Int.not_lt, Int.not_le, ne_eq, Decidable.not_not, bne_eq_false_iff_eq] at hg1_5
    refine g0 2 true 5 6 4 rfl rfl rfl rfl rfl rfl ?_
    refine g0 2 true 5 7 5 rfl rfl rfl rfl rfl rfl ?_
    refine s1 8 48 6 rfl rfl rfl rfl rfl rfl trivial ?_
    refine s1 2 56 7 rfl rfl rfl rfl rfl rfl trivial ?_
    refine e1 64 rfl ?_
    refine keep [2] rfl ?_
    refine W_ret ?_
    exact out1 2 (SV.b ((decide (1 ≤ threads) && decide (threads ≤ 4)))) (π := []) (hout := []) Tryd.results30 rfl (by show SV.b _ = SV.b _; refine congrArg SV.b (Bool.eq_iff_iff.2 ?_); simp at *; try omega) rfl rfl trivial ⟨rfl, rfl⟩

def digS : ByteArray := ⟨#[48, 49, 50, 51, 52, 53, 54, 55, 56, 57, 97, 98, 99, 100, 101, 102, 103, 104, 105, 106, 107, 108, 109, 110, 111, 112, 113, 114, 115, 116, 117, 118, 119, 120, 121, 122]⟩
def digit (n : Int) : ByteArray := digS.extract n.toNat (n + 1).toNat
theorem digit_size (n : Int) : (digit n).size ≤ 36 := by
  unfold digit
  rw [ByteArray.size_extract]
  have : digS.size = 36 := rfl
  rw [this]; omega
theorem cat_le {a b : ByteArray} (ha : a.size ≤ 100) (hb : b.size ≤ 36) : a.size + b.size ≤ 9223372036854775807 := by omega

theorem small_any (n : Int) (h0 : 0 ≤ n) (h9 : n < 10) : Spec Tryd.prog GV 39 [SV.i n] [] (fun r ho => r = .d (.val (.string (digit n))) ∧ ho = []) := by
  refine start 15 0 Tryd.func39 rfl rfl rfl rfl ?_
  refine r1 ?_
  refine s1 2 0 1 rfl rfl rfl rfl rfl rfl trivial ?_
  refine e1 8 rfl ?_
  refine keep [0] rfl ?_
  refine W_seq ?_
  refine r1 ?_
  refine s1 3 8 1 rfl rfl rfl rfl rfl rfl trivial ?_
  refine s1 4 16 2 rfl rfl rfl rfl rfl rfl (by first | trivial | omega | (simp only [List.length_map, List.length_append, List.length_cons, List.length_nil] at *; omega)) ?_
  refine e1 24 rfl ?_
  refine keep [0, 4] rfl ?_
  refine q1 rfl (fun hc1 => ?_) (fun hc1 => ?_)
  · skip
    try simp only [decide_eq_true_eq, decide_eq_false_iff_not, Bool.not_eq_true', Bool.not_eq_false', beq_iff_eq, bne_iff_ne, beq_eq_false_iff_ne, Bool.and_eq_true, Bool.or_eq_true, Bool.and_eq_false_iff, Bool.or_eq_false_iff, ge_iff_le, gt_iff_lt, Int.not_lt, Int.not_le, ne_eq, Decidable.not_not, bne_eq_false_iff_eq] at hc1
    refine r1 ?_
    refine s1 5 24 1 rfl rfl rfl rfl rfl rfl trivial ?_
    refine s1 6 32 2 rfl rfl rfl rfl rfl rfl trivial ?_
    refine sA 7 40 3 rfl rfl rfl rfl rfl rfl rfl rfl rfl (by unfold inRange; omega) ?_
    refine s1 8 48 4 rfl rfl rfl rfl rfl rfl (by show 0 ≤ n ∧ n ≤ n + 1 ∧ n + 1 ≤ 36; omega) ?_
    refine s1 2 56 5 rfl rfl rfl rfl rfl rfl trivial ?_
    refine e1 64 rfl ?_
    refine keep [2] rfl ?_
    refine W_ret ?_
    refine tr ?_
    exact out1 2 (.d (.val (.string (digit n)))) (π := []) (hout := []) Tryd.results39 rfl rfl rfl rfl trivial ⟨rfl, rfl⟩
  · skip
    exfalso; simp at hc1; omega

theorem format_any (n : Int) (h0 : 0 ≤ n) (h9 : n < 10) : Spec Tryd.prog GV 38 [SV.i n, SV.i 10] [] (fun r ho => r = .d (.val (.string (digit n))) ∧ ho = []) := by
  refine start 54 0 Tryd.func38 rfl rfl rfl rfl ?_
  refine r1 ?_
  refine s1 4 0 1 rfl rfl rfl rfl rfl rfl trivial ?_
  refine e1 8 rfl ?_
  refine keep [0, 1] rfl ?_
  refine W_seq ?_
  refine r1 ?_
  refine s1 10 8 1 rfl rfl rfl rfl rfl rfl trivial ?_
  refine s1 11 16 2 rfl rfl rfl rfl rfl rfl (by first | trivial | omega | (simp only [List.length_map, List.length_append, List.length_cons, List.length_nil] at *; omega)) ?_
  refine e1 24 rfl ?_
  refine keep [0, 1, 11] rfl ?_
  refine q1 rfl (fun hc1 => ?_) (fun hc1 => ?_)
  · skip
    try simp only [decide_eq_true_eq, decide_eq_false_iff_not, Bool.not_eq_true', Bool.not_eq_false', beq_iff_eq, bne_iff_ne, beq_eq_false_iff_ne, Bool.and_eq_true, Bool.or_eq_true, Bool.and_eq_false_iff, Bool.or_eq_false_iff, ge_iff_le, gt_iff_lt, Int.not_lt, Int.not_le, ne_eq, Decidable.not_not, bne_eq_false_iff_eq] at hc1
    refine W_seq ?_
    refine r1 ?_
    refine s1 12 24 1 rfl rfl rfl rfl rfl rfl trivial ?_
    refine s1 13 32 2 rfl rfl rfl rfl rfl rfl (by first | trivial | omega | (simp only [List.length_map, List.length_append, List.length_cons, List.length_nil] at *; omega)) ?_
    refine s1 14 40 3 rfl rfl rfl rfl rfl rfl trivial ?_
    refine ask 14 rfl (fun hg2_14 => ?_) (fun hg2_14 => ?_)
    · skip
      try simp only [decide_eq_true_eq, decide_eq_false_iff_not, Bool.not_eq_true', Bool.not_eq_false', beq_iff_eq, bne_iff_ne, beq_eq_false_iff_ne, Bool.and_eq_true, Bool.or_eq_true, Bool.and_eq_false_iff, Bool.or_eq_false_iff, ge_iff_le, gt_iff_lt, Int.not_lt, Int.not_le, ne_eq, Decidable.not_not, bne_eq_false_iff_eq] at hg2_14
      refine g1 2 true 14 15 4 rfl rfl rfl rfl rfl ?_
      refine s1 15 48 4 rfl rfl rfl rfl rfl rfl trivial ?_
      refine g1 2 true 14 16 5 rfl rfl rfl rfl rfl ?_
      refine s1 16 56 5 rfl rfl rfl rfl rfl rfl (by first | trivial | omega | (simp only [List.length_map, List.length_append, List.length_cons, List.length_nil] at *; omega)) ?_
      refine s1 17 64 6 rfl rfl rfl rfl rfl rfl trivial ?_
      refine e1 72 rfl ?_
      refine keep [0, 17] rfl ?_
      refine q1 rfl (fun hc2 => ?_) (fun hc2 => ?_)
      · skip
        try simp only [decide_eq_true_eq, decide_eq_false_iff_not, Bool.not_eq_true', Bool.not_eq_false', beq_iff_eq, bne_iff_ne, beq_eq_false_iff_ne, Bool.and_eq_true, Bool.or_eq_true, Bool.and_eq_false_iff, Bool.or_eq_false_iff, ge_iff_le, gt_iff_lt, Int.not_lt, Int.not_le, ne_eq, Decidable.not_not, bne_eq_false_iff_eq] at hc2
        refine r1 ?_
        refine s1 18 72 1 rfl rfl rfl rfl rfl rfl trivial ?_
        refine c1 (small_any n h0 h9) [] [] 19 80 2 rfl rfl rfl rfl rfl rfl rfl rfl Tryd.func39 rfl rfl rfl rfl trivial rfl rfl ?_
        refine s1 4 88 3 rfl rfl rfl rfl rfl rfl trivial ?_
        refine e1 96 rfl ?_
        refine keep [4] rfl ?_
        refine W_ret ?_
        refine tr ?_
        refine tr ?_
        exact out1 4 (.d (.val (.string (digit n)))) (π := []) (hout := []) Tryd.results38 rfl rfl rfl rfl trivial ⟨rfl, rfl⟩
      · skip
        exfalso; simp at hc2; omega
    · skip
      try simp only [decide_eq_true_eq, decide_eq_false_iff_not, Bool.not_eq_true', Bool.not_eq_false', beq_iff_eq, bne_iff_ne, beq_eq_false_iff_ne, Bool.and_eq_true, Bool.or_eq_true, Bool.and_eq_false_iff, Bool.or_eq_false_iff, ge_iff_le, gt_iff_lt, Int.not_lt, Int.not_le, ne_eq, Decidable.not_not, bne_eq_false_iff_eq] at hg2_14
      all_goals (exfalso; omega)
  · skip
    exact absurd hc1 (by decide)

theorem itoa0_any (n : Int) (h0 : 0 ≤ n) (h9 : n < 10) : Spec Tryd.prog GV 37 [SV.i n] [] (fun r ho => r = .d (.val (.string (digit n))) ∧ ho = []) := by
  refine start 5 0 Tryd.func37 rfl rfl rfl rfl ?_
  refine r1 ?_
  refine s1 2 0 1 rfl rfl rfl rfl rfl rfl trivial ?_
  refine e1 8 rfl ?_
  refine keep [0] rfl ?_
  refine r1 ?_
  refine s1 3 8 1 rfl rfl rfl rfl rfl rfl trivial ?_
  refine c1 (format_any n h0 h9) [] [] 4 16 2 rfl rfl rfl rfl rfl rfl rfl rfl Tryd.func38 rfl rfl rfl rfl trivial rfl rfl ?_
  refine s1 2 24 3 rfl rfl rfl rfl rfl rfl trivial ?_
  refine e1 32 rfl ?_
  refine keep [2] rfl ?_
  refine W_ret ?_
  exact out1 2 (.d (.val (.string (digit n)))) (π := []) (hout := []) Tryd.results37 rfl rfl rfl rfl trivial ⟨rfl, rfl⟩

theorem itoa_any (n : Int) (h0 : 0 ≤ n) (h9 : n < 10) : Spec Tryd.prog GV 24 [SV.i n] [] (fun r ho => r = .d (.val (.string (digit n))) ∧ ho = []) := by
  refine start 5 0 Tryd.func24 rfl rfl rfl rfl ?_
  refine r1 ?_
  refine s1 2 0 1 rfl rfl rfl rfl rfl rfl trivial ?_
  refine e1 8 rfl ?_
  refine keep [0] rfl ?_
  refine r1 ?_
  refine s1 3 8 1 rfl rfl rfl rfl rfl rfl trivial ?_
  refine c1 (itoa0_any n h0 h9) [] [] 4 16 2 rfl rfl rfl rfl rfl rfl rfl rfl Tryd.func37 rfl rfl rfl rfl trivial rfl rfl ?_
  refine s1 2 24 3 rfl rfl rfl rfl rfl rfl trivial ?_
  refine e1 32 rfl ?_
  refine keep [2] rfl ?_
  refine W_ret ?_
  exact out1 2 (.d (.val (.string (digit n)))) (π := []) (hout := []) Tryd.results24 rfl rfl rfl rfl trivial ⟨rfl, rfl⟩

def noCas (l : List Ins) : Bool := l.all fun o => !decide (o.k = 15)
theorem noCas_at {l : List Ins} (h : noCas l = true) {n : Nat} (hn : n < l.length) : ¬ (l.getD n default).k = 15 := by
  rw [getI_lt hn]
  have := List.all_eq_true.1 h _ (List.getElem_mem hn)
  simpa using this

theorem plain_any (l : List Ins) (hl : l.length ≤ 9223372036854775807) (h0 : 0 < l.length) (hm : mayB l = true) (hc : noCas l = true) : Spec Tryd.prog GV 13 [insV l] [] (fun r ho => r = SV.b true ∧ ho = []) := by
  refine start 23 0 Tryd.func13 rfl rfl rfl rfl ?_
  refine r1 ?_
  refine s1 2 0 1 rfl rfl rfl rfl rfl rfl trivial ?_
  refine e1 8 rfl ?_
  refine keep [0] rfl ?_
  refine W_seq ?_
  refine r1 ?_
  refine s1 3 8 1 rfl rfl rfl rfl rfl rfl trivial ?_
  refine e1 16 rfl ?_
  refine keep [0, 3] rfl ?_
  refine W_block ?_
  refine loop (α := Nat) 0 (fun n => [(0, insV l), (3, SV.i n)]) (fun n => []) (fun n => n ≤ l.length) (fun n => l.length - n) (0) [] (fun _ => rfl) (Nat.zero_le _) rfl ⟨rfl, rfl, trivial⟩ trivial (fun n hx => ?_)
  refine W_seq ?_
  refine r1 ?_
  refine s1 4 0 1 rfl rfl rfl rfl rfl rfl trivial ?_
  refine s1 5 8 2 rfl rfl rfl rfl rfl rfl trivial ?_
  refine s1 6 16 3 rfl rfl rfl rfl rfl rfl (by first | trivial | omega | (simp only [List.length_map, List.length_append, List.length_cons, List.length_nil] at *; omega)) ?_
  refine s1 7 24 4 rfl rfl rfl rfl rfl rfl (by first | trivial | omega | (simp only [List.length_map, List.length_append, List.length_cons, List.length_nil] at *; omega)) ?_
  refine e1 32 rfl ?_
  refine keep [0, 3, 7] rfl ?_
  refine q1 rfl (fun hc2 => ?_) (fun hc2 => ?_)
  · skip
    try simp only [decide_eq_true_eq, decide_eq_false_iff_not, Bool.not_eq_true', Bool.not_eq_false', beq_iff_eq, bne_iff_ne, beq_eq_false_iff_ne, Bool.and_eq_true, Bool.or_eq_true, Bool.and_eq_false_iff, Bool.or_eq_false_iff, ge_iff_le, gt_iff_lt, Int.not_lt, Int.not_le, ne_eq, Decidable.not_not, bne_eq_false_iff_eq] at hc2
    refine W_skip ?_
    refine tn ?_
    refine W_seq ?_
    refine W_block ?_
    refine r1 ?_
    refine s1 10 32 1 rfl rfl rfl rfl rfl rfl trivial ?_
    refine s1 11 40 2 rfl rfl rfl rfl rfl rfl trivial ?_
    refine s1 12 48 3 rfl rfl rfl rfl rfl rfl (by first | omega | (simp only [Int.toNat_natCast] at *; omega)) ?_
    refine s1 13 56 4 rfl rfl rfl rfl rfl rfl trivial ?_
    refine s1 14 64 5 rfl rfl rfl rfl rfl rfl (by first | omega | (simp only [Int.toNat_natCast] at *; omega)) ?_
    refine val 14 (SV.i (l.getD n default).k) rfl (by first | rfl | simp only [Nat.zero_add, Int.toNat_natCast]) ?_
    refine s1 15 72 6 rfl rfl rfl rfl rfl rfl (by first | trivial | omega | (simp only [List.length_map, List.length_append, List.length_cons, List.length_nil] at *; omega)) ?_
    refine e1 80 rfl ?_
    refine keep [0, 3, 15] rfl ?_
    refine q1 rfl (fun hc4 => ?_) (fun hc4 => ?_)
    · skip
      have := noCas_at hc (n := n) (by omega); simp at hc4; exact absurd hc4 (by simpa using this)
    · skip
      try simp only [decide_eq_true_eq, decide_eq_false_iff_not, Bool.not_eq_true', Bool.not_eq_false', beq_iff_eq, bne_iff_ne, beq_eq_false_iff_ne, Bool.and_eq_true, Bool.or_eq_true, Bool.and_eq_false_iff, Bool.or_eq_false_iff, ge_iff_le, gt_iff_lt, Int.not_lt, Int.not_le, ne_eq, Decidable.not_not, bne_eq_false_iff_eq] at hc4
      refine W_skip ?_
      refine bn ?_
      refine tn ?_
      refine r0 ?_
      refine s1 8 80 1 rfl rfl rfl rfl rfl rfl trivial ?_
      refine sA 9 88 2 rfl rfl rfl rfl rfl rfl rfl rfl rfl (by unfold inRange; omega) ?_
      refine s1 3 96 3 rfl rfl rfl rfl rfl rfl trivial ?_
      refine e1 104 rfl ?_
      refine tn ?_
      exact again (n + 1) [] (by omega) (by omega) rfl ⟨rfl, rfl, trivial⟩ trivial
  · skip
    try simp only [decide_eq_true_eq, decide_eq_false_iff_not, Bool.not_eq_true', Bool.not_eq_false', beq_iff_eq, bne_iff_ne, beq_eq_false_iff_ne, Bool.and_eq_true, Bool.or_eq_true, Bool.and_eq_false_iff, Bool.or_eq_false_iff, ge_iff_le, gt_iff_lt, Int.not_lt, Int.not_le, ne_eq, Decidable.not_not, bne_eq_false_iff_eq] at hc2
    refine W_exit ?_
    refine tx ?_
    refine tx ?_
    refine bx ?_
    refine tn ?_
    refine r1 ?_
    refine s1 16 32 1 rfl rfl rfl rfl rfl rfl trivial ?_
    refine s1 17 40 2 rfl rfl rfl rfl rfl rfl (by first | trivial | omega | (simp only [List.length_map, List.length_append, List.length_cons, List.length_nil] at *; omega)) ?_
    refine s1 18 48 3 rfl rfl rfl rfl rfl rfl (by first | trivial | omega | (simp only [List.length_map, List.length_append, List.length_cons, List.length_nil] at *; omega)) ?_
    refine s1 19 56 4 rfl rfl rfl rfl rfl rfl trivial ?_
    refine ask 19 rfl (fun hg6_19 => ?_) (fun hg6_19 => ?_)
    · skip
      try simp only [decide_eq_true_eq, decide_eq_false_iff_not, Bool.not_eq_true', Bool.not_eq_false', beq_iff_eq, bne_iff_ne, beq_eq_false_iff_ne, Bool.and_eq_true, Bool.or_eq_true, Bool.and_eq_false_iff, Bool.or_eq_false_iff, ge_iff_le, gt_iff_lt, Int.not_lt, Int.not_le, ne_eq, Decidable.not_not, bne_eq_false_iff_eq] at hg6_19
      refine g1 3 true 19 20 5 rfl rfl rfl rfl rfl ?_
      refine s1 20 64 5 rfl rfl rfl rfl rfl rfl trivial ?_
      refine g1 3 true 19 21 6 rfl rfl rfl rfl rfl ?_
      refine c1 (codeMay_any l hl) [] [] 21 72 6 rfl rfl rfl rfl rfl rfl rfl rfl Tryd.func9 rfl rfl rfl rfl trivial rfl rfl ?_
      refine val 21 (SV.b true) rfl (by rw [hm]) ?_
      refine s1 22 80 7 rfl rfl rfl rfl rfl rfl trivial ?_
      refine s1 2 88 8 rfl rfl rfl rfl rfl rfl trivial ?_
      refine e1 96 rfl ?_
      refine keep [2] rfl ?_
      refine W_ret ?_
      exact out1 2 (SV.b true) (π := []) (hout := []) Tryd.results13 rfl (by first | rfl | (simp; done)) rfl rfl trivial ⟨rfl, rfl⟩
    · skip
      try simp only [decide_eq_true_eq, decide_eq_false_iff_not, Bool.not_eq_true', Bool.not_eq_false', beq_iff_eq, bne_iff_ne, beq_eq_false_iff_ne, Bool.and_eq_true, Bool.or_eq_true, Bool.and_eq_false_iff, Bool.or_eq_false_iff, ge_iff_le, gt_iff_lt, Int.not_lt, Int.not_le, ne_eq, Decidable.not_not, bne_eq_false_iff_eq] at hg6_19
      all_goals (exfalso; first | (simp at hg6_19; done) | (simp at hg6_19; omega) | (simp_all; omega) | omega)

def B_wait (B : Bld) (threads j : Int) : Bld := ((((((((((((((((B.set st_j j).doo 8 st_same st_j st_me).iff 11 st_same (st_next ++ (digit j))).mark (st_takes ++ (digit j))).word 13 st_other st_j 0).iff 11 st_other (st_takes ++ (digit j))).mark (st_has ++ (digit j))).word 13 st_other st_j threads).iff 12 st_other (st_next ++ (digit j))).doo 9 st_less st_mine st_other).iff 11 st_less (st_next ++ (digit j))).doo 8 st_same st_mine st_other).iff 12 st_same (st_has ++ (digit j))).doo 9 st_less st_j st_me).iff 11 st_less (st_has ++ (digit j))).mark (st_next ++ (digit j)))
theorem turn_wait (B : Bld) (threads j : Int) (hj : 0 ≤ j ∧ j < 10) {n : Nat} (h : B.ok n) (hn : n ≤ 80000) : Spec Tryd.prog GV 32 [.ptr 0 0 0, SV.i threads, SV.i j] [.cells 50 4 [.sl 1 0 B.ops.length, .map 2, .sl 3 0 B.gotos.length, .map 4], .rows 42 5 B.ops.length (insF B.ops), .map (mapE B.places), .rows 53 2 B.gotos.length (gotoF B.gotos), .map (mapE B.regs)] (fun r ho => r = SV.tup [] ∧ ho = [some (.cells 50 4 [.sl 6 0 (B_wait B threads j).ops.length, .map 2, .sl 5 0 (B_wait B threads j).gotos.length, .map 4]), none, some (.map (mapE (B_wait B threads j).places)), none, some (.map (mapE (B_wait B threads j).regs)), some (.rows 53 2 (B_wait B threads j).gotos.length (gotoF (B_wait B threads j).gotos)), some (.rows 42 5 (B_wait B threads j).ops.length (insF (B_wait B threads j).ops))]) := by
  refine start 52 5 Tryd.func32 rfl rfl rfl rfl ?_
  refine r1 ?_
  refine s1 7 5 1 rfl rfl rfl rfl rfl rfl trivial ?_
  refine c1 (itoa_any j (by omega) (by omega)) [] [] 8 13 2 rfl rfl rfl rfl rfl rfl rfl rfl Tryd.func24 rfl rfl rfl rfl trivial rfl rfl ?_
  refine s1 6 21 3 rfl rfl rfl rfl rfl rfl trivial ?_
  refine e1 29 rfl ?_
  refine keep [0, 1, 2, 6] rfl ?_
  refine r1 ?_
  refine s1 9 29 1 rfl rfl rfl rfl rfl rfl trivial ?_
  refine s1 10 37 2 rfl rfl rfl rfl rfl rfl trivial ?_
  refine c1 (set_any B st_j j h (by omega)) [0, 1, 2, 3, 4] [0, 1, 2, 3, 4, 45] 11 45 3 rfl rfl rfl rfl rfl rfl rfl rfl Tryd.func19 rfl rfl rfl rfl ⟨rfl, rfl, rfl, rfl, rfl, trivial⟩ rfl rfl ?_
  have hb1 := ok_set st_j j h
  refine c1 (doo_any (B.set st_j j) 8 st_same st_j st_me hb1 (by omega)) [0, 45, 2, 3, 4] [0, 45, 2, 3, 4, 53] 12 53 4 rfl rfl rfl rfl rfl rfl rfl rfl Tryd.func21 rfl rfl rfl rfl ⟨rfl, rfl, rfl, rfl, rfl, trivial⟩ rfl rfl ?_
  have hb2 := ok_doo 8 st_same st_j st_me hb1
  refine s1 13 61 5 rfl rfl rfl rfl rfl rfl trivial ?_
  refine sCat 14 69 6 rfl rfl rfl rfl rfl rfl rfl rfl (cat_le (by decide) (digit_size _)) ?_
  refine c1 (iff_any ((B.set st_j j).doo 8 st_same st_j st_me) 11 st_same (st_next ++ (digit j)) hb2 (by omega)) [0, 53, 2, 3, 4] [0, 53, 2, 3, 4, 77, 78] 15 77 7 rfl rfl rfl rfl rfl rfl rfl rfl Tryd.func26 rfl rfl rfl rfl ⟨rfl, rfl, rfl, rfl, rfl, trivial⟩ rfl rfl ?_
  have hb3 := ok_iff 11 st_same (st_next ++ (digit j)) hb2
  refine e1 85 rfl ?_
  refine keep [0, 1, 6] rfl ?_
  refine r1 ?_
  refine s1 16 85 1 rfl rfl rfl rfl rfl rfl trivial ?_
  refine s1 17 93 2 rfl rfl rfl rfl rfl rfl trivial ?_
  refine sCat 18 101 3 rfl rfl rfl rfl rfl rfl rfl rfl (cat_le (by decide) (digit_size _)) ?_
  refine c1 (mark_any (((B.set st_j j).doo 8 st_same st_j st_me).iff 11 st_same (st_next ++ (digit j))) (st_takes ++ (digit j)) hb3 (by omega)) [0, 78, 2, 77, 4] [0, 78, 2, 77, 4] 19 109 4 rfl rfl rfl rfl rfl rfl rfl rfl Tryd.func25 rfl rfl rfl rfl ⟨rfl, rfl, rfl, rfl, rfl, trivial⟩ rfl rfl ?_
  have hb4 := ok_mark (st_takes ++ (digit j)) hb3
  refine c1 (word_any ((((B.set st_j j).doo 8 st_same st_j st_me).iff 11 st_same (st_next ++ (digit j))).mark (st_takes ++ (digit j))) 13 st_other st_j 0 hb4 (by omega)) [0, 78, 2, 77, 4] [0, 78, 2, 77, 4, 117] 20 117 5 rfl rfl rfl rfl rfl rfl rfl rfl Tryd.func20 rfl rfl rfl rfl ⟨rfl, rfl, rfl, rfl, rfl, trivial⟩ rfl rfl ?_
  have hb5 := ok_word 13 st_other st_j 0 hb4
  refine s1 21 125 6 rfl rfl rfl rfl rfl rfl trivial ?_
  refine sCat 22 133 7 rfl rfl rfl rfl rfl rfl rfl rfl (cat_le (by decide) (digit_size _)) ?_
  refine c1 (iff_any (((((B.set st_j j).doo 8 st_same st_j st_me).iff 11 st_same (st_next ++ (digit j))).mark (st_takes ++ (digit j))).word 13 st_other st_j 0) 11 st_other (st_takes ++ (digit j)) hb5 (by omega)) [0, 117, 2, 77, 4] [0, 117, 2, 77, 4, 141, 142] 23 141 8 rfl rfl rfl rfl rfl rfl rfl rfl Tryd.func26 rfl rfl rfl rfl ⟨rfl, rfl, rfl, rfl, rfl, trivial⟩ rfl rfl ?_
  have hb6 := ok_iff 11 st_other (st_takes ++ (digit j)) hb5
  refine e1 149 rfl ?_
  refine keep [0, 1, 6] rfl ?_
  refine r1 ?_
  refine s1 24 149 1 rfl rfl rfl rfl rfl rfl trivial ?_
  refine s1 25 157 2 rfl rfl rfl rfl rfl rfl trivial ?_
  refine sCat 26 165 3 rfl rfl rfl rfl rfl rfl rfl rfl (cat_le (by decide) (digit_size _)) ?_
  refine c1 (mark_any ((((((B.set st_j j).doo 8 st_same st_j st_me).iff 11 st_same (st_next ++ (digit j))).mark (st_takes ++ (digit j))).word 13 st_other st_j 0).iff 11 st_other (st_takes ++ (digit j))) (st_has ++ (digit j)) hb6 (by omega)) [0, 142, 2, 141, 4] [0, 142, 2, 141, 4] 27 173 4 rfl rfl rfl rfl rfl rfl rfl rfl Tryd.func25 rfl rfl rfl rfl ⟨rfl, rfl, rfl, rfl, rfl, trivial⟩ rfl rfl ?_
  have hb7 := ok_mark (st_has ++ (digit j)) hb6
  refine s1 28 181 5 rfl rfl rfl rfl rfl rfl trivial ?_
  refine c1 (word_any (((((((B.set st_j j).doo 8 st_same st_j st_me).iff 11 st_same (st_next ++ (digit j))).mark (st_takes ++ (digit j))).word 13 st_other st_j 0).iff 11 st_other (st_takes ++ (digit j))).mark (st_has ++ (digit j))) 13 st_other st_j threads hb7 (by omega)) [0, 142, 2, 141, 4] [0, 142, 2, 141, 4, 189] 29 189 6 rfl rfl rfl rfl rfl rfl rfl rfl Tryd.func20 rfl rfl rfl rfl ⟨rfl, rfl, rfl, rfl, rfl, trivial⟩ rfl rfl ?_
  have hb8 := ok_word 13 st_other st_j threads hb7
  refine s1 30 197 7 rfl rfl rfl rfl rfl rfl trivial ?_
  refine sCat 31 205 8 rfl rfl rfl rfl rfl rfl rfl rfl (cat_le (by decide) (digit_size _)) ?_
  refine c1 (iff_any ((((((((B.set st_j j).doo 8 st_same st_j st_me).iff 11 st_same (st_next ++ (digit j))).mark (st_takes ++ (digit j))).word 13 st_other st_j 0).iff 11 st_other (st_takes ++ (digit j))).mark (st_has ++ (digit j))).word 13 st_other st_j threads) 12 st_other (st_next ++ (digit j)) hb8 (by omega)) [0, 189, 2, 141, 4] [0, 189, 2, 141, 4, 213, 214] 32 213 9 rfl rfl rfl rfl rfl rfl rfl rfl Tryd.func26 rfl rfl rfl rfl ⟨rfl, rfl, rfl, rfl, rfl, trivial⟩ rfl rfl ?_
  have hb9 := ok_iff 12 st_other (st_next ++ (digit j)) hb8
  refine e1 221 rfl ?_
  refine keep [0, 6] rfl ?_
  refine r1 ?_
  refine s1 33 221 1 rfl rfl rfl rfl rfl rfl trivial ?_
  refine c1 (doo_any (((((((((B.set st_j j).doo 8 st_same st_j st_me).iff 11 st_same (st_next ++ (digit j))).mark (st_takes ++ (digit j))).word 13 st_other st_j 0).iff 11 st_other (st_takes ++ (digit j))).mark (st_has ++ (digit j))).word 13 st_other st_j threads).iff 12 st_other (st_next ++ (digit j))) 9 st_less st_mine st_other hb9 (by omega)) [0, 214, 2, 213, 4] [0, 214, 2, 213, 4, 229] 34 229 2 rfl rfl rfl rfl rfl rfl rfl rfl Tryd.func21 rfl rfl rfl rfl ⟨rfl, rfl, rfl, rfl, rfl, trivial⟩ rfl rfl ?_
  have hb10 := ok_doo 9 st_less st_mine st_other hb9
  refine s1 35 237 3 rfl rfl rfl rfl rfl rfl trivial ?_
  refine sCat 36 245 4 rfl rfl rfl rfl rfl rfl rfl rfl (cat_le (by decide) (digit_size _)) ?_
  refine c1 (iff_any ((((((((((B.set st_j j).doo 8 st_same st_j st_me).iff 11 st_same (st_next ++ (digit j))).mark (st_takes ++ (digit j))).word 13 st_other st_j 0).iff 11 st_other (st_takes ++ (digit j))).mark (st_has ++ (digit j))).word 13 st_other st_j threads).iff 12 st_other (st_next ++ (digit j))).doo 9 st_less st_mine st_other) 11 st_less (st_next ++ (digit j)) hb10 (by omega)) [0, 229, 2, 213, 4] [0, 229, 2, 213, 4, 253, 254] 37 253 5 rfl rfl rfl rfl rfl rfl rfl rfl Tryd.func26 rfl rfl rfl rfl ⟨rfl, rfl, rfl, rfl, rfl, trivial⟩ rfl rfl ?_
  have hb11 := ok_iff 11 st_less (st_next ++ (digit j)) hb10
  refine e1 261 rfl ?_
  refine keep [0, 6] rfl ?_
  refine r1 ?_
  refine s1 38 261 1 rfl rfl rfl rfl rfl rfl trivial ?_
  refine c1 (doo_any (((((((((((B.set st_j j).doo 8 st_same st_j st_me).iff 11 st_same (st_next ++ (digit j))).mark (st_takes ++ (digit j))).word 13 st_other st_j 0).iff 11 st_other (st_takes ++ (digit j))).mark (st_has ++ (digit j))).word 13 st_other st_j threads).iff 12 st_other (st_next ++ (digit j))).doo 9 st_less st_mine st_other).iff 11 st_less (st_next ++ (digit j))) 8 st_same st_mine st_other hb11 (by omega)) [0, 254, 2, 253, 4] [0, 254, 2, 253, 4, 269] 39 269 2 rfl rfl rfl rfl rfl rfl rfl rfl Tryd.func21 rfl rfl rfl rfl ⟨rfl, rfl, rfl, rfl, rfl, trivial⟩ rfl rfl ?_
  have hb12 := ok_doo 8 st_same st_mine st_other hb11
  refine s1 40 277 3 rfl rfl rfl rfl rfl rfl trivial ?_
  refine sCat 41 285 4 rfl rfl rfl rfl rfl rfl rfl rfl (cat_le (by decide) (digit_size _)) ?_
  refine c1 (iff_any ((((((((((((B.set st_j j).doo 8 st_same st_j st_me).iff 11 st_same (st_next ++ (digit j))).mark (st_takes ++ (digit j))).word 13 st_other st_j 0).iff 11 st_other (st_takes ++ (digit j))).mark (st_has ++ (digit j))).word 13 st_other st_j threads).iff 12 st_other (st_next ++ (digit j))).doo 9 st_less st_mine st_other).iff 11 st_less (st_next ++ (digit j))).doo 8 st_same st_mine st_other) 12 st_same (st_has ++ (digit j)) hb12 (by omega)) [0, 269, 2, 253, 4] [0, 269, 2, 253, 4, 293, 294] 42 293 5 rfl rfl rfl rfl rfl rfl rfl rfl Tryd.func26 rfl rfl rfl rfl ⟨rfl, rfl, rfl, rfl, rfl, trivial⟩ rfl rfl ?_
  have hb13 := ok_iff 12 st_same (st_has ++ (digit j)) hb12
  refine e1 301 rfl ?_
  refine keep [0, 6] rfl ?_
  refine r1 ?_
  refine s1 43 301 1 rfl rfl rfl rfl rfl rfl trivial ?_
  refine c1 (doo_any (((((((((((((B.set st_j j).doo 8 st_same st_j st_me).iff 11 st_same (st_next ++ (digit j))).mark (st_takes ++ (digit j))).word 13 st_other st_j 0).iff 11 st_other (st_takes ++ (digit j))).mark (st_has ++ (digit j))).word 13 st_other st_j threads).iff 12 st_other (st_next ++ (digit j))).doo 9 st_less st_mine st_other).iff 11 st_less (st_next ++ (digit j))).doo 8 st_same st_mine st_other).iff 12 st_same (st_has ++ (digit j))) 9 st_less st_j st_me hb13 (by omega)) [0, 294, 2, 293, 4] [0, 294, 2, 293, 4, 309] 44 309 2 rfl rfl rfl rfl rfl rfl rfl rfl Tryd.func21 rfl rfl rfl rfl ⟨rfl, rfl, rfl, rfl, rfl, trivial⟩ rfl rfl ?_
  have hb14 := ok_doo 9 st_less st_j st_me hb13
  refine s1 45 317 3 rfl rfl rfl rfl rfl rfl trivial ?_
  refine sCat 46 325 4 rfl rfl rfl rfl rfl rfl rfl rfl (cat_le (by decide) (digit_size _)) ?_
  refine c1 (iff_any ((((((((((((((B.set st_j j).doo 8 st_same st_j st_me).iff 11 st_same (st_next ++ (digit j))).mark (st_takes ++ (digit j))).word 13 st_other st_j 0).iff 11 st_other (st_takes ++ (digit j))).mark (st_has ++ (digit j))).word 13 st_other st_j threads).iff 12 st_other (st_next ++ (digit j))).doo 9 st_less st_mine st_other).iff 11 st_less (st_next ++ (digit j))).doo 8 st_same st_mine st_other).iff 12 st_same (st_has ++ (digit j))).doo 9 st_less st_j st_me) 11 st_less (st_has ++ (digit j)) hb14 (by omega)) [0, 309, 2, 293, 4] [0, 309, 2, 293, 4, 333, 334] 47 333 5 rfl rfl rfl rfl rfl rfl rfl rfl Tryd.func26 rfl rfl rfl rfl ⟨rfl, rfl, rfl, rfl, rfl, trivial⟩ rfl rfl ?_
  have hb15 := ok_iff 11 st_less (st_has ++ (digit j)) hb14
  refine e1 341 rfl ?_
  refine keep [0, 6] rfl ?_
  refine r0 ?_
  refine s1 48 341 1 rfl rfl rfl rfl rfl rfl trivial ?_
  refine s1 49 349 2 rfl rfl rfl rfl rfl rfl trivial ?_
  refine sCat 50 357 3 rfl rfl rfl rfl rfl rfl rfl rfl (cat_le (by decide) (digit_size _)) ?_
  refine c1 (mark_any (((((((((((((((B.set st_j j).doo 8 st_same st_j st_me).iff 11 st_same (st_next ++ (digit j))).mark (st_takes ++ (digit j))).word 13 st_other st_j 0).iff 11 st_other (st_takes ++ (digit j))).mark (st_has ++ (digit j))).word 13 st_other st_j threads).iff 12 st_other (st_next ++ (digit j))).doo 9 st_less st_mine st_other).iff 11 st_less (st_next ++ (digit j))).doo 8 st_same st_mine st_other).iff 12 st_same (st_has ++ (digit j))).doo 9 st_less st_j st_me).iff 11 st_less (st_has ++ (digit j))) (st_next ++ (digit j)) hb15 (by omega)) [0, 334, 2, 333, 4] [0, 334, 2, 333, 4] 51 365 4 rfl rfl rfl rfl rfl rfl rfl rfl Tryd.func25 rfl rfl rfl rfl ⟨rfl, rfl, rfl, rfl, rfl, trivial⟩ rfl rfl ?_
  have hb16 := ok_mark (st_next ++ (digit j)) hb15
  refine e1 373 rfl ?_
  exact out0 (π := [0, 1, 2, 3, 4, 333, 334]) (hout := [some (.cells 50 4 [.sl 6 0 (B_wait B threads j).ops.length, .map 2, .sl 5 0 (B_wait B threads j).gotos.length, .map 4]), none, some (.map (mapE (B_wait B threads j).places)), none, some (.map (mapE (B_wait B threads j).regs)), some (.rows 53 2 (B_wait B threads j).gotos.length (gotoF (B_wait B threads j).gotos)), some (.rows 42 5 (B_wait B threads j).ops.length (insF (B_wait B threads j).ops))]) Tryd.results32 rfl rfl ⟨rfl, rfl, rfl, rfl, rfl, trivial⟩ ⟨rfl, rfl⟩

theorem okt_wait {B : Bld} (threads j : Int) {n : Nat} (h : B.ok n) : (B_wait B threads j).ok (n + 13) := ok_mark (st_next ++ (digit j)) (ok_iff 11 st_less (st_has ++ (digit j)) (ok_doo 9 st_less st_j st_me (ok_iff 12 st_same (st_has ++ (digit j)) (ok_doo 8 st_same st_mine st_other (ok_iff 11 st_less (st_next ++ (digit j)) (ok_doo 9 st_less st_mine st_other (ok_iff 12 st_other (st_next ++ (digit j)) (ok_word 13 st_other st_j threads (ok_mark (st_has ++ (digit j)) (ok_iff 11 st_other (st_takes ++ (digit j)) (ok_word 13 st_other st_j 0 (ok_mark (st_takes ++ (digit j)) (ok_iff 11 st_same (st_next ++ (digit j)) (ok_doo 8 st_same st_j st_me (ok_set st_j j (h))))))))))))))))

theorem no_Words (threads : Int) (hr : ¬ (1 ≤ threads ∧ threads ≤ 4)) : Spec Tryd.prog GV 10 [SV.i threads] [] (fun r ho => r = SV.tup [.d .nils, SV.i 2] ∧ ho = []) := by
  refine start 10 0 Tryd.func10 rfl rfl rfl rfl ?_
  refine r1 ?_
  refine s1 2 0 1 rfl rfl rfl rfl rfl rfl trivial ?_
  refine s1 3 8 2 rfl rfl rfl rfl rfl rfl trivial ?_
  refine e1 16 rfl ?_
  refine keep [0] rfl ?_
  refine W_seq ?_
  refine r1 ?_
  refine s1 4 16 1 rfl rfl rfl rfl rfl rfl trivial ?_
  refine c1 (may_any threads) [] [] 5 24 2 rfl rfl rfl rfl rfl rfl rfl rfl Tryd.func30 rfl rfl rfl rfl trivial rfl rfl ?_
  refine s1 6 32 3 rfl rfl rfl rfl rfl rfl trivial ?_
  refine e1 40 rfl ?_
  refine keep [0, 6] rfl ?_
  refine q1 rfl (fun hc1 => ?_) (fun hc1 => ?_)
  · skip
    try simp only [decide_eq_true_eq, decide_eq_false_iff_not, Bool.not_eq_true', Bool.not_eq_false', beq_iff_eq, bne_iff_ne, beq_eq_false_iff_ne, Bool.and_eq_true, Bool.or_eq_true, Bool.and_eq_false_iff, Bool.or_eq_false_iff, ge_iff_le, gt_iff_lt, Int.not_lt, Int.not_le, ne_eq, Decidable.not_not, bne_eq_false_iff_eq] at hc1
    refine r1 ?_
    refine s1 2 40 1 rfl rfl rfl rfl rfl rfl trivial ?_
    refine s1 3 48 2 rfl rfl rfl rfl rfl rfl trivial ?_
    refine e1 56 rfl ?_
    refine keep [2, 3] rfl ?_
    refine W_ret ?_
    refine tr ?_
    exact out2 2 3 (.d .nils) (SV.i 2) (π := []) (hout := []) Tryd.results10 rfl rfl rfl rfl rfl rfl trivial ⟨rfl, rfl⟩
  · skip
    exfalso; simp at hc1; omega

theorem no_Enter (threads : Int) (hr : ¬ (1 ≤ threads ∧ threads ≤ 4)) : Spec Tryd.prog GV 11 [SV.i threads] [] (fun r ho => r = SV.tup [.d .nils, SV.i 2] ∧ ho = []) := by
  refine start 51 0 Tryd.func11 rfl rfl rfl rfl ?_
  refine r1 ?_
  refine s1 2 0 1 rfl rfl rfl rfl rfl rfl trivial ?_
  refine s1 3 8 2 rfl rfl rfl rfl rfl rfl trivial ?_
  refine e1 16 rfl ?_
  refine keep [0] rfl ?_
  refine W_seq ?_
  refine r1 ?_
  refine s1 8 16 1 rfl rfl rfl rfl rfl rfl trivial ?_
  refine c1 (may_any threads) [] [] 9 24 2 rfl rfl rfl rfl rfl rfl rfl rfl Tryd.func30 rfl rfl rfl rfl trivial rfl rfl ?_
  refine s1 10 32 3 rfl rfl rfl rfl rfl rfl trivial ?_
  refine e1 40 rfl ?_
  refine keep [0, 10] rfl ?_
  refine q1 rfl (fun hc1 => ?_) (fun hc1 => ?_)
  · skip
    try simp only [decide_eq_true_eq, decide_eq_false_iff_not, Bool.not_eq_true', Bool.not_eq_false', beq_iff_eq, bne_iff_ne, beq_eq_false_iff_ne, Bool.and_eq_true, Bool.or_eq_true, Bool.and_eq_false_iff, Bool.or_eq_false_iff, ge_iff_le, gt_iff_lt, Int.not_lt, Int.not_le, ne_eq, Decidable.not_not, bne_eq_false_iff_eq] at hc1
    refine r1 ?_
    refine s1 2 40 1 rfl rfl rfl rfl rfl rfl trivial ?_
    refine s1 3 48 2 rfl rfl rfl rfl rfl rfl trivial ?_
    refine e1 56 rfl ?_
    refine keep [2, 3] rfl ?_
    refine W_ret ?_
    refine tr ?_
    exact out2 2 3 (.d .nils) (SV.i 2) (π := []) (hout := []) Tryd.results11 rfl rfl rfl rfl rfl rfl trivial ⟨rfl, rfl⟩
  · skip
    exfalso; simp at hc1; omega

theorem no_Leave (threads : Int) (hr : ¬ (1 ≤ threads ∧ threads ≤ 4)) : Spec Tryd.prog GV 12 [SV.i threads] [] (fun r ho => r = SV.tup [.d .nils, SV.i 2] ∧ ho = []) := by
  refine start 12 0 Tryd.func12 rfl rfl rfl rfl ?_
  refine r1 ?_
  refine s1 2 0 1 rfl rfl rfl rfl rfl rfl trivial ?_
  refine s1 3 8 2 rfl rfl rfl rfl rfl rfl trivial ?_
  refine e1 16 rfl ?_
  refine keep [0] rfl ?_
  refine W_seq ?_
  refine r1 ?_
  refine s1 4 16 1 rfl rfl rfl rfl rfl rfl trivial ?_
  refine c1 (may_any threads) [] [] 5 24 2 rfl rfl rfl rfl rfl rfl rfl rfl Tryd.func30 rfl rfl rfl rfl trivial rfl rfl ?_
  refine s1 6 32 3 rfl rfl rfl rfl rfl rfl trivial ?_
  refine e1 40 rfl ?_
  refine keep [0, 6] rfl ?_
  refine q1 rfl (fun hc1 => ?_) (fun hc1 => ?_)
  · skip
    try simp only [decide_eq_true_eq, decide_eq_false_iff_not, Bool.not_eq_true', Bool.not_eq_false', beq_iff_eq, bne_iff_ne, beq_eq_false_iff_ne, Bool.and_eq_true, Bool.or_eq_true, Bool.and_eq_false_iff, Bool.or_eq_false_iff, ge_iff_le, gt_iff_lt, Int.not_lt, Int.not_le, ne_eq, Decidable.not_not, bne_eq_false_iff_eq] at hc1
    refine r1 ?_
    refine s1 2 40 1 rfl rfl rfl rfl rfl rfl trivial ?_
    refine s1 3 48 2 rfl rfl rfl rfl rfl rfl trivial ?_
    refine e1 56 rfl ?_
    refine keep [2, 3] rfl ?_
    refine W_ret ?_
    refine tr ?_
    exact out2 2 3 (.d .nils) (SV.i 2) (π := []) (hout := []) Tryd.results12 rfl rfl rfl rfl rfl rfl trivial ⟨rfl, rfl⟩
  · skip
    exfalso; simp at hc1; omega

theorem yes_Words (threads : Int) (hr : 1 ≤ threads ∧ threads ≤ 4) : Spec Tryd.prog GV 10 [SV.i threads] [] (fun r ho => r = SV.tup [.sl 0 0 (2 * threads).toNat, SV.i 0] ∧ ho = [none]) := by
  refine start 10 0 Tryd.func10 rfl rfl rfl rfl ?_
  refine r1 ?_
  refine s1 2 0 1 rfl rfl rfl rfl rfl rfl trivial ?_
  refine s1 3 8 2 rfl rfl rfl rfl rfl rfl trivial ?_
  refine e1 16 rfl ?_
  refine keep [0] rfl ?_
  refine W_seq ?_
  refine r1 ?_
  refine s1 4 16 1 rfl rfl rfl rfl rfl rfl trivial ?_
  refine c1 (may_any threads) [] [] 5 24 2 rfl rfl rfl rfl rfl rfl rfl rfl Tryd.func30 rfl rfl rfl rfl trivial rfl rfl ?_
  refine s1 6 32 3 rfl rfl rfl rfl rfl rfl trivial ?_
  refine e1 40 rfl ?_
  refine keep [0, 6] rfl ?_
  refine q1 rfl (fun hc1 => ?_) (fun hc1 => ?_)
  · skip
    exfalso; simp at hc1; omega
  · skip
    try simp only [decide_eq_true_eq, decide_eq_false_iff_not, Bool.not_eq_true', Bool.not_eq_false', beq_iff_eq, bne_iff_ne, beq_eq_false_iff_ne, Bool.and_eq_true, Bool.or_eq_true, Bool.and_eq_false_iff, Bool.or_eq_false_iff, ge_iff_le, gt_iff_lt, Int.not_lt, Int.not_le, ne_eq, Decidable.not_not, bne_eq_false_iff_eq] at hc1
    refine W_skip ?_
    refine tn ?_
    refine r1 ?_
    refine s1 7 40 1 rfl rfl rfl rfl rfl rfl trivial ?_
    refine sA 8 48 2 rfl rfl rfl rfl rfl rfl rfl rfl rfl (by unfold inRange; omega) ?_
    refine s1 9 56 3 rfl rfl rfl rfl rfl rfl (by refine ⟨?_, rfl, ?_, ?_⟩; omega; (show _ * 8 ≤ (140737488355328 : Int); omega); omega) ?_
    refine s1 2 64 4 rfl rfl rfl rfl rfl rfl trivial ?_
    refine s1 3 72 5 rfl rfl rfl rfl rfl rfl trivial ?_
    refine e1 80 rfl ?_
    refine keep [2, 3] rfl ?_
    refine W_ret ?_
    exact out2 2 3 (.sl 0 0 (2 * threads).toNat) (SV.i 0) (π := [56]) (hout := [none]) Tryd.results10 rfl rfl rfl rfl rfl rfl trivial ⟨rfl, rfl⟩

def B_Leave (threads : Int) : Bld := ((mk [st_me]).word 14 st_zero st_me threads)
theorem yes_Leave (threads : Int) (hr : 1 ≤ threads ∧ threads ≤ 4) : Spec Tryd.prog GV 12 [SV.i threads] [] (fun r ho => r = SV.tup [.sl 0 0 (fin (B_Leave threads)).length, SV.i 0] ∧ ho = [some (.rows 42 5 (fin (B_Leave threads)).length (insF (fin (B_Leave threads))))]) := by
  refine start 12 0 Tryd.func12 rfl rfl rfl rfl ?_
  refine r1 ?_
  refine s1 2 0 1 rfl rfl rfl rfl rfl rfl trivial ?_
  refine s1 3 8 2 rfl rfl rfl rfl rfl rfl trivial ?_
  refine e1 16 rfl ?_
  refine keep [0] rfl ?_
  refine W_seq ?_
  refine r1 ?_
  refine s1 4 16 1 rfl rfl rfl rfl rfl rfl trivial ?_
  refine c1 (may_any threads) [] [] 5 24 2 rfl rfl rfl rfl rfl rfl rfl rfl Tryd.func30 rfl rfl rfl rfl trivial rfl rfl ?_
  refine s1 6 32 3 rfl rfl rfl rfl rfl rfl trivial ?_
  refine e1 40 rfl ?_
  refine keep [0, 6] rfl ?_
  refine q1 rfl (fun hc1 => ?_) (fun hc1 => ?_)
  · skip
    exfalso; simp at hc1; omega
  · skip
    try simp only [decide_eq_true_eq, decide_eq_false_iff_not, Bool.not_eq_true', Bool.not_eq_false', beq_iff_eq, bne_iff_ne, beq_eq_false_iff_ne, Bool.and_eq_true, Bool.or_eq_true, Bool.and_eq_false_iff, Bool.or_eq_false_iff, ge_iff_le, gt_iff_lt, Int.not_lt, Int.not_le, ne_eq, Decidable.not_not, bne_eq_false_iff_eq] at hc1
    refine W_skip ?_
    refine tn ?_
    refine r1 ?_
    refine sLit 1 (strsF [st_me]) 7 40 1 rfl rfl rfl rfl rfl rfl rfl rfl rfl (by intro i c hi hc; obtain rfl : i = 0 := (by omega); obtain rfl : c = 0 := (by omega); rfl) ?_
    refine c1 (new_any [st_me] (by decide)) [] [48, 49, 50, 51, 52] 8 48 2 rfl rfl rfl rfl rfl rfl rfl rfl Tryd.func18 rfl rfl rfl rfl trivial rfl rfl ?_
    have hb1 := ok_mk [st_me]
    refine s1 9 56 3 rfl rfl rfl rfl rfl rfl trivial ?_
    refine c1 (word_any (mk [st_me]) 14 st_zero st_me threads hb1 (by decide)) [48, 49, 50, 51, 52] [48, 49, 50, 51, 52, 64] 10 64 4 rfl rfl rfl rfl rfl rfl rfl rfl Tryd.func20 rfl rfl rfl rfl ⟨rfl, rfl, rfl, rfl, rfl, trivial⟩ rfl rfl ?_
    have hb2 := ok_word 14 st_zero st_me threads hb1
    refine c1 (ops_any ((mk [st_me]).word 14 st_zero st_me threads) hb2 (by decide)) [48, 64, 50, 51, 52] [48, 64, 50, 51, 52] 11 72 5 rfl rfl rfl rfl rfl rfl rfl rfl Tryd.func22 rfl rfl rfl rfl ⟨rfl, rfl, rfl, rfl, rfl, trivial⟩ rfl rfl ?_
    refine s1 2 80 6 rfl rfl rfl rfl rfl rfl trivial ?_
    refine s1 3 88 7 rfl rfl rfl rfl rfl rfl trivial ?_
    refine e1 96 rfl ?_
    refine keep [2, 3] rfl ?_
    refine W_ret ?_
    exact out2 2 3 (.sl 0 0 (fin (B_Leave threads)).length) (SV.i 0) (π := [64]) (hout := [some (.rows 42 5 (fin (B_Leave threads)).length (insF (fin (B_Leave threads))))]) Tryd.results12 rfl rfl rfl rfl rfl rfl ⟨rfl, trivial⟩ ⟨rfl, rfl⟩

theorem ok_Leave {threads : Int} (h : 1 ≤ threads ∧ threads ≤ 4) : mayB (fin (B_Leave threads)) = true ∧ 0 < (fin (B_Leave threads)).length ∧ (fin (B_Leave threads)).length ≤ 1000 ∧ noCas (fin (B_Leave threads)) = true := by
  obtain rfl | rfl | rfl | rfl : threads = 1 ∨ threads = 2 ∨ threads = 3 ∨ threads = 4 := (by omega)
  all_goals decide +kernel

def L_enter1 (threads : Int) : Nat → Bld
  | 0 => (((mk [st_me]).set st_one 1).word 14 st_one st_me 0)
  | n + 1 => ((((((L_enter1 threads n).word 13 st_other st_zero (threads + (n : Int))).doo 9 st_more st_mine st_other).iff 12 st_more (st_less ++ (digit (n : Int)))).copy st_mine st_other).mark (st_less ++ (digit (n : Int))))

theorem okL_enter1 (threads : Int) : ∀ n : Nat, (L_enter1 threads n).ok (2 + 4 * n)
  | 0 => ok_up (ok_word 14 st_one st_me 0 (ok_set st_one 1 (ok_mk [st_me]))) (by omega)
  | n + 1 => ok_up (ok_mark (st_less ++ (digit (n : Int))) (ok_copy st_mine st_other (ok_iff 12 st_more (st_less ++ (digit (n : Int))) (ok_doo 9 st_more st_mine st_other (ok_word 13 st_other st_zero (threads + (n : Int)) ((okL_enter1 threads n))))))) (by omega)

def L_enter2 (threads : Int) : Nat → Bld
  | 0 => ((((L_enter1 threads threads.toNat).doo 3 st_mine st_mine st_one).word 14 st_mine st_me threads).word 14 st_zero st_me 0)
  | n + 1 => (B_wait (L_enter2 threads n) threads (n : Int))

theorem okL_enter2 (threads : Int) : ∀ n : Nat, (L_enter2 threads n).ok (2 + 4 * threads.toNat + 3 + 13 * n)
  | 0 => ok_up (ok_word 14 st_zero st_me 0 (ok_word 14 st_mine st_me threads (ok_doo 3 st_mine st_mine st_one (okL_enter1 threads threads.toNat)))) (by omega)
  | n + 1 => ok_up (okt_wait threads (n : Int) ((okL_enter2 threads n))) (by omega)

def B_Enter (threads : Int) : Bld := (L_enter2 threads threads.toNat)
theorem yes_Enter (threads : Int) (hr : 1 ≤ threads ∧ threads ≤ 4) : Spec Tryd.prog GV 11 [SV.i threads] [] (fun r ho => r = SV.tup [.sl 0 0 (fin (B_Enter threads)).length, SV.i 0] ∧ ho = [some (.rows 42 5 (fin (B_Enter threads)).length (insF (fin (B_Enter threads))))]) := by
  refine start 51 0 Tryd.func11 rfl rfl rfl rfl ?_
  refine r1 ?_
  refine s1 2 0 1 rfl rfl rfl rfl rfl rfl trivial ?_
  refine s1 3 8 2 rfl rfl rfl rfl rfl rfl trivial ?_
  refine e1 16 rfl ?_
  refine keep [0] rfl ?_
  refine W_seq ?_
  refine r1 ?_
  refine s1 8 16 1 rfl rfl rfl rfl rfl rfl trivial ?_
  refine c1 (may_any threads) [] [] 9 24 2 rfl rfl rfl rfl rfl rfl rfl rfl Tryd.func30 rfl rfl rfl rfl trivial rfl rfl ?_
  refine s1 10 32 3 rfl rfl rfl rfl rfl rfl trivial ?_
  refine e1 40 rfl ?_
  refine keep [0, 10] rfl ?_
  refine q1 rfl (fun hc1 => ?_) (fun hc1 => ?_)
  · skip
    exfalso; simp at hc1; omega
  · skip
    try simp only [decide_eq_true_eq, decide_eq_false_iff_not] at hc1
    refine W_skip ?_
    refine tn ?_
    refine r1 ?_
    refine sLit 1 (strsF [st_me]) 11 40 1 rfl rfl rfl rfl rfl rfl rfl rfl rfl (by intro i c hi hc; obtain rfl : i = 0 := (by omega); obtain rfl : c = 0 := (by omega); rfl) ?_
    refine c1 (new_any [st_me] (by decide)) [] [48, 49, 50, 51, 52] 12 48 2 rfl rfl rfl rfl rfl rfl rfl rfl Tryd.func18 rfl rfl rfl rfl trivial rfl rfl ?_
    have hb1 := ok_mk [st_me]
    refine c1 (set_any (mk [st_me]) st_one 1 hb1 (by omega)) [48, 49, 50, 51, 52] [48, 49, 50, 51, 52, 56] 13 56 3 rfl rfl rfl rfl rfl rfl rfl rfl Tryd.func19 rfl rfl rfl rfl ⟨rfl, rfl, rfl, rfl, rfl, trivial⟩ rfl rfl ?_
    have hb2 := ok_set st_one 1 hb1
    refine c1 (word_any ((mk [st_me]).set st_one 1) 14 st_one st_me 0 hb2 (by omega)) [48, 56, 50, 51, 52] [48, 56, 50, 51, 52, 64] 14 64 4 rfl rfl rfl rfl rfl rfl rfl rfl Tryd.func20 rfl rfl rfl rfl ⟨rfl, rfl, rfl, rfl, rfl, trivial⟩ rfl rfl ?_
    have hb3 := ok_word 14 st_one st_me 0 hb2
    refine s1 4 72 5 rfl rfl rfl rfl rfl rfl trivial ?_
    refine e1 80 rfl ?_
    refine keep [0, 4] rfl ?_
    refine W_seq ?_
    refine r1 ?_
    refine s1 15 80 1 rfl rfl rfl rfl rfl rfl trivial ?_
    refine s1 16 88 2 rfl rfl rfl rfl rfl rfl trivial ?_
    refine e1 96 rfl ?_
    refine keep [0, 4, 15, 16] rfl ?_
    refine W_block ?_
    refine loop (α := Nat) 5 (fun n => [(0, SV.i threads), (4, .ptr 0 0 0), (15, SV.i threads), (16, SV.i n)]) (fun n => [some (.cells 50 4 [.sl 1 0 (L_enter1 threads n).ops.length, .map 2, .sl 3 0 (L_enter1 threads n).gotos.length, .map 4]), some (.rows 42 5 (L_enter1 threads n).ops.length (insF (L_enter1 threads n).ops)), some (.map (mapE (L_enter1 threads n).places)), some (.rows 53 2 (L_enter1 threads n).gotos.length (gotoF (L_enter1 threads n).gotos)), some (.map (mapE (L_enter1 threads n).regs))]) (fun n => n ≤ threads.toNat) (fun n => threads.toNat - n) (0) [48, 64, 50, 51, 52] (fun _ => rfl) (Nat.zero_le _) rfl ⟨rfl, rfl, rfl, rfl, trivial⟩ ⟨rfl, rfl, rfl, rfl, rfl, trivial⟩ (fun n hx => ?_)
    have hb4 := okL_enter1 threads n
    refine r1 ?_
    refine s1 17 5 1 rfl rfl rfl rfl rfl rfl (by first | trivial | omega | (simp only [List.length_map, List.length_append, List.length_cons, List.length_nil] at *; omega)) ?_
    refine e1 13 rfl ?_
    refine keep [0, 4, 15, 16, 17] rfl ?_
    refine W_seq ?_
    refine q1 rfl (fun hc5 => ?_) (fun hc5 => ?_)
    · skip
      try simp only [decide_eq_true_eq, decide_eq_false_iff_not] at hc5
      refine W_skip ?_
      refine tn ?_
      refine W_seq ?_
      refine W_block ?_
      refine r1 ?_
      refine s1 18 13 1 rfl rfl rfl rfl rfl rfl trivial ?_
      refine s1 5 21 2 rfl rfl rfl rfl rfl rfl trivial ?_
      refine e1 29 rfl ?_
      refine keep [0, 4, 5, 15, 16] rfl ?_
      refine r1 ?_
      refine s1 19 29 1 rfl rfl rfl rfl rfl rfl trivial ?_
      refine c1 (itoa_any (n : Int) (by omega) (by omega)) [] [] 20 37 2 rfl rfl rfl rfl rfl rfl rfl rfl Tryd.func24 rfl rfl rfl rfl trivial rfl rfl ?_
      refine sCat 21 45 3 rfl rfl rfl rfl rfl rfl rfl rfl (cat_le (by decide) (digit_size _)) ?_
      refine s1 6 53 4 rfl rfl rfl rfl rfl rfl trivial ?_
      refine e1 61 rfl ?_
      refine keep [0, 4, 5, 6, 15, 16] rfl ?_
      refine r1 ?_
      refine s1 22 61 1 rfl rfl rfl rfl rfl rfl trivial ?_
      refine s1 23 69 2 rfl rfl rfl rfl rfl rfl trivial ?_
      refine s1 24 77 3 rfl rfl rfl rfl rfl rfl trivial ?_
      refine sA 25 85 4 rfl rfl rfl rfl rfl rfl rfl rfl rfl (by unfold inRange; omega) ?_
      refine c1 (word_any (L_enter1 threads n) 13 st_other st_zero (threads + (n : Int)) hb4 (by omega)) [0, 1, 2, 3, 4] [0, 1, 2, 3, 4, 93] 26 93 5 rfl rfl rfl rfl rfl rfl rfl rfl Tryd.func20 rfl rfl rfl rfl ⟨rfl, rfl, rfl, rfl, rfl, trivial⟩ rfl rfl ?_
      have hb5 := ok_word 13 st_other st_zero (threads + (n : Int)) hb4
      refine c1 (doo_any ((L_enter1 threads n).word 13 st_other st_zero (threads + (n : Int))) 9 st_more st_mine st_other hb5 (by omega)) [0, 93, 2, 3, 4] [0, 93, 2, 3, 4, 101] 27 101 6 rfl rfl rfl rfl rfl rfl rfl rfl Tryd.func21 rfl rfl rfl rfl ⟨rfl, rfl, rfl, rfl, rfl, trivial⟩ rfl rfl ?_
      have hb6 := ok_doo 9 st_more st_mine st_other hb5
      refine s1 28 109 7 rfl rfl rfl rfl rfl rfl trivial ?_
      refine c1 (iff_any (((L_enter1 threads n).word 13 st_other st_zero (threads + (n : Int))).doo 9 st_more st_mine st_other) 12 st_more (st_less ++ (digit (n : Int))) hb6 (by omega)) [0, 101, 2, 3, 4] [0, 101, 2, 3, 4, 117, 118] 29 117 8 rfl rfl rfl rfl rfl rfl rfl rfl Tryd.func26 rfl rfl rfl rfl ⟨rfl, rfl, rfl, rfl, rfl, trivial⟩ rfl rfl ?_
      have hb7 := ok_iff 12 st_more (st_less ++ (digit (n : Int))) hb6
      refine e1 125 rfl ?_
      refine keep [0, 4, 6, 15, 16] rfl ?_
      refine r0 ?_
      refine s1 30 125 1 rfl rfl rfl rfl rfl rfl trivial ?_
      refine c1 (copy_any ((((L_enter1 threads n).word 13 st_other st_zero (threads + (n : Int))).doo 9 st_more st_mine st_other).iff 12 st_more (st_less ++ (digit (n : Int)))) st_mine st_other hb7 (by omega)) [0, 118, 2, 117, 4] [0, 118, 2, 117, 4, 133] 31 133 2 rfl rfl rfl rfl rfl rfl rfl rfl Tryd.func31 rfl rfl rfl rfl ⟨rfl, rfl, rfl, rfl, rfl, trivial⟩ rfl rfl ?_
      have hb8 := ok_copy st_mine st_other hb7
      refine s1 32 141 3 rfl rfl rfl rfl rfl rfl trivial ?_
      refine c1 (mark_any (((((L_enter1 threads n).word 13 st_other st_zero (threads + (n : Int))).doo 9 st_more st_mine st_other).iff 12 st_more (st_less ++ (digit (n : Int)))).copy st_mine st_other) (st_less ++ (digit (n : Int))) hb8 (by omega)) [0, 133, 2, 117, 4] [0, 133, 2, 117, 4] 33 149 4 rfl rfl rfl rfl rfl rfl rfl rfl Tryd.func25 rfl rfl rfl rfl ⟨rfl, rfl, rfl, rfl, rfl, trivial⟩ rfl rfl ?_
      have hb9 := ok_mark (st_less ++ (digit (n : Int))) hb8
      refine e1 157 rfl ?_
      refine bn ?_
      refine tn ?_
      refine r0 ?_
      refine sA 34 157 1 rfl rfl rfl rfl rfl rfl rfl rfl rfl (by unfold inRange; omega) ?_
      refine s1 16 165 2 rfl rfl rfl rfl rfl rfl trivial ?_
      refine e1 173 rfl ?_
      refine tn ?_
      exact again (n + 1) [0, 133, 2, 117, 4] (by omega) (by omega) rfl ⟨rfl, rfl, rfl, rfl, trivial⟩ ⟨rfl, rfl, rfl, rfl, rfl, trivial⟩
    · skip
      try simp only [decide_eq_true_eq, decide_eq_false_iff_not] at hc5
      obtain rfl : n = threads.toNat := (by omega)
      have hb10 := okL_enter1 threads threads.toNat
      refine W_exit ?_
      refine tx ?_
      refine tx ?_
      refine bx ?_
      refine tn ?_
      refine r1 ?_
      refine s1 35 13 1 rfl rfl rfl rfl rfl rfl trivial ?_
      refine c1 (doo_any (L_enter1 threads threads.toNat) 3 st_mine st_mine st_one hb10 (by omega)) [0, 1, 2, 3, 4] [0, 1, 2, 3, 4, 21] 36 21 2 rfl rfl rfl rfl rfl rfl rfl rfl Tryd.func21 rfl rfl rfl rfl ⟨rfl, rfl, rfl, rfl, rfl, trivial⟩ rfl rfl ?_
      have hb11 := ok_doo 3 st_mine st_mine st_one hb10
      refine s1 37 29 3 rfl rfl rfl rfl rfl rfl trivial ?_
      refine c1 (word_any ((L_enter1 threads threads.toNat).doo 3 st_mine st_mine st_one) 14 st_mine st_me threads hb11 (by omega)) [0, 21, 2, 3, 4] [0, 21, 2, 3, 4, 37] 38 37 4 rfl rfl rfl rfl rfl rfl rfl rfl Tryd.func20 rfl rfl rfl rfl ⟨rfl, rfl, rfl, rfl, rfl, trivial⟩ rfl rfl ?_
      have hb12 := ok_word 14 st_mine st_me threads hb11
      refine c1 (word_any (((L_enter1 threads threads.toNat).doo 3 st_mine st_mine st_one).word 14 st_mine st_me threads) 14 st_zero st_me 0 hb12 (by omega)) [0, 37, 2, 3, 4] [0, 37, 2, 3, 4, 45] 39 45 5 rfl rfl rfl rfl rfl rfl rfl rfl Tryd.func20 rfl rfl rfl rfl ⟨rfl, rfl, rfl, rfl, rfl, trivial⟩ rfl rfl ?_
      have hb13 := ok_word 14 st_zero st_me 0 hb12
      refine e1 53 rfl ?_
      refine keep [0, 4] rfl ?_
      refine W_seq ?_
      refine r1 ?_
      refine s1 40 53 1 rfl rfl rfl rfl rfl rfl trivial ?_
      refine s1 41 61 2 rfl rfl rfl rfl rfl rfl trivial ?_
      refine e1 69 rfl ?_
      refine keep [0, 4, 40, 41] rfl ?_
      refine W_block ?_
      refine loop (α := Nat) 5 (fun n => [(0, SV.i threads), (4, .ptr 0 0 0), (40, SV.i threads), (41, SV.i n)]) (fun n => [some (.cells 50 4 [.sl 1 0 (L_enter2 threads n).ops.length, .map 2, .sl 3 0 (L_enter2 threads n).gotos.length, .map 4]), some (.rows 42 5 (L_enter2 threads n).ops.length (insF (L_enter2 threads n).ops)), some (.map (mapE (L_enter2 threads n).places)), some (.rows 53 2 (L_enter2 threads n).gotos.length (gotoF (L_enter2 threads n).gotos)), some (.map (mapE (L_enter2 threads n).regs))]) (fun n => n ≤ threads.toNat) (fun n => threads.toNat - n) (0) [0, 45, 2, 3, 4] (fun _ => rfl) (Nat.zero_le _) rfl ⟨rfl, rfl, rfl, rfl, trivial⟩ ⟨rfl, rfl, rfl, rfl, rfl, trivial⟩ (fun n hx => ?_)
      have hb14 := okL_enter2 threads n
      refine r1 ?_
      refine s1 42 5 1 rfl rfl rfl rfl rfl rfl (by first | trivial | omega | (simp only [List.length_map, List.length_append, List.length_cons, List.length_nil] at *; omega)) ?_
      refine e1 13 rfl ?_
      refine keep [0, 4, 40, 41, 42] rfl ?_
      refine W_seq ?_
      refine q1 rfl (fun hc13 => ?_) (fun hc13 => ?_)
      · skip
        try simp only [decide_eq_true_eq, decide_eq_false_iff_not] at hc13
        refine W_skip ?_
        refine tn ?_
        refine W_seq ?_
        refine W_block ?_
        refine r1 ?_
        refine s1 43 13 1 rfl rfl rfl rfl rfl rfl trivial ?_
        refine s1 7 21 2 rfl rfl rfl rfl rfl rfl trivial ?_
        refine e1 29 rfl ?_
        refine keep [0, 4, 7, 40, 41] rfl ?_
        refine r0 ?_
        refine s1 44 29 1 rfl rfl rfl rfl rfl rfl trivial ?_
        refine s1 45 37 2 rfl rfl rfl rfl rfl rfl trivial ?_
        refine s1 46 45 3 rfl rfl rfl rfl rfl rfl trivial ?_
        refine c1 (turn_wait (L_enter2 threads n) threads (n : Int) (by omega) hb14 (by omega)) [0, 1, 2, 3, 4] [0, 1, 2, 3, 4, 53, 54] 47 53 4 rfl rfl rfl rfl rfl rfl rfl rfl Tryd.func32 rfl rfl rfl rfl ⟨rfl, rfl, rfl, rfl, rfl, trivial⟩ rfl rfl ?_
        have hb15 := okt_wait threads (n : Int) hb14
        refine e1 61 rfl ?_
        refine bn ?_
        refine tn ?_
        refine r0 ?_
        refine sA 48 61 1 rfl rfl rfl rfl rfl rfl rfl rfl rfl (by unfold inRange; omega) ?_
        refine s1 41 69 2 rfl rfl rfl rfl rfl rfl trivial ?_
        refine e1 77 rfl ?_
        refine tn ?_
        exact again (n + 1) [0, 54, 2, 53, 4] (by omega) (by omega) rfl ⟨rfl, rfl, rfl, rfl, trivial⟩ ⟨rfl, rfl, rfl, rfl, rfl, trivial⟩
      · skip
        try simp only [decide_eq_true_eq, decide_eq_false_iff_not] at hc13
        obtain rfl : n = threads.toNat := (by omega)
        have hb16 := okL_enter2 threads threads.toNat
        refine W_exit ?_
        refine tx ?_
        refine tx ?_
        refine bx ?_
        refine tn ?_
        refine r1 ?_
        refine s1 49 13 1 rfl rfl rfl rfl rfl rfl trivial ?_
        refine c1 (ops_any (L_enter2 threads threads.toNat) hb16 (by omega)) [0, 1, 2, 3, 4] [0, 1, 2, 3, 4] 50 21 2 rfl rfl rfl rfl rfl rfl rfl rfl Tryd.func22 rfl rfl rfl rfl ⟨rfl, rfl, rfl, rfl, rfl, trivial⟩ rfl rfl ?_
        refine s1 2 29 3 rfl rfl rfl rfl rfl rfl trivial ?_
        refine s1 3 37 4 rfl rfl rfl rfl rfl rfl trivial ?_
        refine e1 45 rfl ?_
        refine keep [2, 3] rfl ?_
        refine W_ret ?_
        exact out2 2 3 (.sl 0 0 (fin (B_Enter threads)).length) (SV.i 0) (π := [1]) (hout := [some (.rows 42 5 (fin (B_Enter threads)).length (insF (fin (B_Enter threads))))]) Tryd.results11 rfl rfl rfl rfl rfl rfl ⟨rfl, trivial⟩ ⟨rfl, rfl⟩

theorem ok_Enter {threads : Int} (h : 1 ≤ threads ∧ threads ≤ 4) : mayB (fin (B_Enter threads)) = true ∧ 0 < (fin (B_Enter threads)).length ∧ (fin (B_Enter threads)).length ≤ 1000 ∧ noCas (fin (B_Enter threads)) = true := by
  obtain rfl | rfl | rfl | rfl : threads = 1 ∨ threads = 2 ∨ threads = 3 ∨ threads = 4 := (by omega)
  all_goals decide +kernel

theorem law_yes (threads : Int) (hr : 1 ≤ threads ∧ threads ≤ 4) : Spec Tryd.prog GV 4 [SV.i threads] [] (fun r _ => r = SV.b true) := by
  refine start 83 0 Tryd.func4 rfl rfl rfl rfl ?_
  refine r1 ?_
  refine s1 2 0 1 rfl rfl rfl rfl rfl rfl trivial ?_
  refine e1 8 rfl ?_
  refine keep [0] rfl ?_
  refine r1 ?_
  refine s1 10 8 1 rfl rfl rfl rfl rfl rfl trivial ?_
  refine c1 (yes_Words threads hr) [] [16] 11 16 2 rfl rfl rfl rfl rfl rfl rfl rfl Tryd.func10 rfl rfl rfl rfl trivial rfl rfl ?_
  refine s1 9 24 3 rfl rfl rfl rfl rfl rfl trivial ?_
  refine s1 12 32 4 rfl rfl rfl rfl rfl rfl trivial ?_
  refine s1 13 40 5 rfl rfl rfl rfl rfl rfl trivial ?_
  refine s1 3 48 6 rfl rfl rfl rfl rfl rfl trivial ?_
  refine s1 4 56 7 rfl rfl rfl rfl rfl rfl trivial ?_
  refine e1 64 rfl ?_
  refine keep [0, 3, 4] rfl ?_
  refine r1 ?_
  refine s1 15 64 1 rfl rfl rfl rfl rfl rfl trivial ?_
  refine c1 (yes_Enter threads hr) [] [72] 16 72 2 rfl rfl rfl rfl rfl rfl rfl rfl Tryd.func11 rfl rfl rfl rfl trivial rfl rfl ?_
  refine s1 14 80 3 rfl rfl rfl rfl rfl rfl trivial ?_
  refine s1 17 88 4 rfl rfl rfl rfl rfl rfl trivial ?_
  refine s1 18 96 5 rfl rfl rfl rfl rfl rfl trivial ?_
  refine s1 5 104 6 rfl rfl rfl rfl rfl rfl trivial ?_
  refine s1 6 112 7 rfl rfl rfl rfl rfl rfl trivial ?_
  refine e1 120 rfl ?_
  refine keep [0, 3, 4, 5, 6] rfl ?_
  refine r1 ?_
  refine s1 20 120 1 rfl rfl rfl rfl rfl rfl trivial ?_
  refine c1 (yes_Leave threads hr) [] [128] 21 128 2 rfl rfl rfl rfl rfl rfl rfl rfl Tryd.func12 rfl rfl rfl rfl trivial rfl rfl ?_
  refine s1 19 136 3 rfl rfl rfl rfl rfl rfl trivial ?_
  refine s1 22 144 4 rfl rfl rfl rfl rfl rfl trivial ?_
  refine s1 23 152 5 rfl rfl rfl rfl rfl rfl trivial ?_
  refine s1 7 160 6 rfl rfl rfl rfl rfl rfl trivial ?_
  refine s1 8 168 7 rfl rfl rfl rfl rfl rfl trivial ?_
  refine e1 176 rfl ?_
  refine keep [0, 3, 4, 5, 6, 7, 8] rfl ?_
  refine W_seq ?_
  refine r1 ?_
  refine s1 24 176 1 rfl rfl rfl rfl rfl rfl trivial ?_
  refine s1 25 184 2 rfl rfl rfl rfl rfl rfl (by first | trivial | omega | (simp only [List.length_map, List.length_append, List.length_cons, List.length_nil] at *; omega)) ?_
  refine s1 26 192 3 rfl rfl rfl rfl rfl rfl trivial ?_
  refine ask 26 rfl (fun hg4_26 => ?_) (fun hg4_26 => ?_)
  · skip
    try simp only [decide_eq_true_eq, decide_eq_false_iff_not, Bool.not_eq_true', Bool.not_eq_false', beq_iff_eq, bne_iff_ne, beq_eq_false_iff_ne, Bool.and_eq_true, Bool.or_eq_true, Bool.and_eq_false_iff, Bool.or_eq_false_iff, ge_iff_le, gt_iff_lt, Int.not_lt, Int.not_le, ne_eq, Decidable.not_not, bne_eq_false_iff_eq] at hg4_26
    refine g0 2 false 26 27 4 rfl rfl rfl rfl rfl rfl ?_
    refine g0 2 false 26 28 5 rfl rfl rfl rfl rfl rfl ?_
    refine s1 29 216 6 rfl rfl rfl rfl rfl rfl trivial ?_
    refine e1 224 rfl ?_
    refine keep [3, 4, 5, 6, 7, 8, 29] rfl ?_
    refine q1 rfl (fun hc4 => ?_) (fun hc4 => ?_)
    · skip
      exfalso; simp at hc4; omega
    · skip
      exact absurd hc4 (by decide)
  · skip
    try simp only [decide_eq_true_eq, decide_eq_false_iff_not, Bool.not_eq_true', Bool.not_eq_false', beq_iff_eq, bne_iff_ne, beq_eq_false_iff_ne, Bool.and_eq_true, Bool.or_eq_true, Bool.and_eq_false_iff, Bool.or_eq_false_iff, ge_iff_le, gt_iff_lt, Int.not_lt, Int.not_le, ne_eq, Decidable.not_not, bne_eq_false_iff_eq] at hg4_26
    refine g1 2 false 26 27 4 rfl rfl rfl rfl rfl ?_
    refine s1 27 200 4 rfl rfl rfl rfl rfl rfl trivial ?_
    refine g1 2 false 26 28 5 rfl rfl rfl rfl rfl ?_
    refine s1 28 208 5 rfl rfl rfl rfl rfl rfl (by first | trivial | omega | (simp only [List.length_map, List.length_append, List.length_cons, List.length_nil] at *; omega)) ?_
    refine s1 29 216 6 rfl rfl rfl rfl rfl rfl trivial ?_
    refine e1 224 rfl ?_
    refine keep [3, 4, 5, 6, 7, 8, 29] rfl ?_
    refine q1 rfl (fun hc4 => ?_) (fun hc4 => ?_)
    · skip
      exfalso; simp at hc4; omega
    · skip
      try simp only [decide_eq_true_eq, decide_eq_false_iff_not, Bool.not_eq_true', Bool.not_eq_false', beq_iff_eq, bne_iff_ne, beq_eq_false_iff_ne, Bool.and_eq_true, Bool.or_eq_true, Bool.and_eq_false_iff, Bool.or_eq_false_iff, ge_iff_le, gt_iff_lt, Int.not_lt, Int.not_le, ne_eq, Decidable.not_not, bne_eq_false_iff_eq] at hc4
      refine W_skip ?_
      refine tn ?_
      refine freeze 5 72 (fin (B_Enter threads)).length rfl rfl (Nat.le_refl _) ?_
      refine freeze 7 128 (fin (B_Leave threads)).length rfl rfl (Nat.le_refl _) ?_
      have ho0 := ok_Enter hr
      have ho1 := ok_Leave hr
      refine r1 ?_
      refine s1 55 224 1 rfl rfl rfl rfl rfl rfl trivial ?_
      refine s1 56 232 2 rfl rfl rfl rfl rfl rfl (by first | trivial | omega | (simp only [List.length_map, List.length_append, List.length_cons, List.length_nil] at *; omega)) ?_
      refine s1 57 240 3 rfl rfl rfl rfl rfl rfl trivial ?_
      refine ask 57 rfl (fun hg6_57 => ?_) (fun hg6_57 => ?_)
      · skip
        try simp only [decide_eq_true_eq, decide_eq_false_iff_not, Bool.not_eq_true', Bool.not_eq_false', beq_iff_eq, bne_iff_ne, beq_eq_false_iff_ne, Bool.and_eq_true, Bool.or_eq_true, Bool.and_eq_false_iff, Bool.or_eq_false_iff, ge_iff_le, gt_iff_lt, Int.not_lt, Int.not_le, ne_eq, Decidable.not_not, bne_eq_false_iff_eq] at hg6_57
        refine g1 2 true 57 58 4 rfl rfl rfl rfl rfl ?_
        refine s1 58 248 4 rfl rfl rfl rfl rfl rfl trivial ?_
        refine g1 2 true 57 59 5 rfl rfl rfl rfl rfl ?_
        refine s1 59 256 5 rfl rfl rfl rfl rfl rfl (by first | trivial | omega | (simp only [List.length_map, List.length_append, List.length_cons, List.length_nil] at *; omega)) ?_
        refine s1 60 264 6 rfl rfl rfl rfl rfl rfl trivial ?_
        refine s1 61 272 7 rfl rfl rfl rfl rfl rfl trivial ?_
        refine ask 61 rfl (fun hg6_61 => ?_) (fun hg6_61 => ?_)
        · skip
          try simp only [decide_eq_true_eq, decide_eq_false_iff_not, Bool.not_eq_true', Bool.not_eq_false', beq_iff_eq, bne_iff_ne, beq_eq_false_iff_ne, Bool.and_eq_true, Bool.or_eq_true, Bool.and_eq_false_iff, Bool.or_eq_false_iff, ge_iff_le, gt_iff_lt, Int.not_lt, Int.not_le, ne_eq, Decidable.not_not, bne_eq_false_iff_eq] at hg6_61
          refine g1 6 true 61 62 8 rfl rfl rfl rfl rfl ?_
          refine s1 62 280 8 rfl rfl rfl rfl rfl rfl trivial ?_
          refine g1 6 true 61 63 9 rfl rfl rfl rfl rfl ?_
          refine s1 63 288 9 rfl rfl rfl rfl rfl rfl (by first | trivial | omega | (simp only [List.length_map, List.length_append, List.length_cons, List.length_nil] at *; omega)) ?_
          refine s1 64 296 10 rfl rfl rfl rfl rfl rfl trivial ?_
          refine s1 65 304 11 rfl rfl rfl rfl rfl rfl trivial ?_
          refine ask 65 rfl (fun hg6_65 => ?_) (fun hg6_65 => ?_)
          · skip
            try simp only [decide_eq_true_eq, decide_eq_false_iff_not, Bool.not_eq_true', Bool.not_eq_false', beq_iff_eq, bne_iff_ne, beq_eq_false_iff_ne, Bool.and_eq_true, Bool.or_eq_true, Bool.and_eq_false_iff, Bool.or_eq_false_iff, ge_iff_le, gt_iff_lt, Int.not_lt, Int.not_le, ne_eq, Decidable.not_not, bne_eq_false_iff_eq] at hg6_65
            refine g1 10 true 65 66 12 rfl rfl rfl rfl rfl ?_
            refine s1 66 312 12 rfl rfl rfl rfl rfl rfl trivial ?_
            refine g1 10 true 65 67 13 rfl rfl rfl rfl rfl ?_
            refine s1 67 320 13 rfl rfl rfl rfl rfl rfl (by first | trivial | omega | (simp only [List.length_map, List.length_append, List.length_cons, List.length_nil] at *; omega)) ?_
            refine g1 10 true 65 68 14 rfl rfl rfl rfl rfl ?_
            refine s1 68 328 14 rfl rfl rfl rfl rfl rfl (by first | trivial | omega | (simp only [List.length_map, List.length_append, List.length_cons, List.length_nil] at *; omega)) ?_
            refine s1 69 336 15 rfl rfl rfl rfl rfl rfl trivial ?_
            refine s1 70 344 16 rfl rfl rfl rfl rfl rfl trivial ?_
            refine ask 70 rfl (fun hg6_70 => ?_) (fun hg6_70 => ?_)
            · skip
              try simp only [decide_eq_true_eq, decide_eq_false_iff_not, Bool.not_eq_true', Bool.not_eq_false', beq_iff_eq, bne_iff_ne, beq_eq_false_iff_ne, Bool.and_eq_true, Bool.or_eq_true, Bool.and_eq_false_iff, Bool.or_eq_false_iff, ge_iff_le, gt_iff_lt, Int.not_lt, Int.not_le, ne_eq, Decidable.not_not, bne_eq_false_iff_eq] at hg6_70
              refine g1 15 true 70 71 17 rfl rfl rfl rfl rfl ?_
              refine s1 71 352 17 rfl rfl rfl rfl rfl rfl trivial ?_
              refine g1 15 true 70 72 18 rfl rfl rfl rfl rfl ?_
              refine s1 72 360 18 rfl rfl rfl rfl rfl rfl (by first | trivial | omega | (simp only [List.length_map, List.length_append, List.length_cons, List.length_nil] at *; omega)) ?_
              refine g1 15 true 70 73 19 rfl rfl rfl rfl rfl ?_
              refine s1 73 368 19 rfl rfl rfl rfl rfl rfl (by first | trivial | omega | (simp only [List.length_map, List.length_append, List.length_cons, List.length_nil] at *; omega)) ?_
              refine s1 74 376 20 rfl rfl rfl rfl rfl rfl trivial ?_
              refine s1 75 384 21 rfl rfl rfl rfl rfl rfl trivial ?_
              refine ask 75 rfl (fun hg6_75 => ?_) (fun hg6_75 => ?_)
              · skip
                try simp only [decide_eq_true_eq, decide_eq_false_iff_not, Bool.not_eq_true', Bool.not_eq_false', beq_iff_eq, bne_iff_ne, beq_eq_false_iff_ne, Bool.and_eq_true, Bool.or_eq_true, Bool.and_eq_false_iff, Bool.or_eq_false_iff, ge_iff_le, gt_iff_lt, Int.not_lt, Int.not_le, ne_eq, Decidable.not_not, bne_eq_false_iff_eq] at hg6_75
                refine g1 20 true 75 76 22 rfl rfl rfl rfl rfl ?_
                refine s1 76 392 22 rfl rfl rfl rfl rfl rfl trivial ?_
                refine g1 20 true 75 77 23 rfl rfl rfl rfl rfl ?_
                refine c1 (plain_any (fin (B_Enter threads)) (Nat.le_trans (ok_Enter hr).2.2.1 (by decide)) (ok_Enter hr).2.1 (ok_Enter hr).1 (ok_Enter hr).2.2.2) [] [] 77 400 23 rfl rfl rfl rfl rfl rfl rfl rfl Tryd.func13 rfl rfl rfl rfl trivial rfl rfl ?_
                refine s1 78 408 24 rfl rfl rfl rfl rfl rfl trivial ?_
                refine s1 79 416 25 rfl rfl rfl rfl rfl rfl trivial ?_
                refine ask 79 rfl (fun hg6_79 => ?_) (fun hg6_79 => ?_)
                · skip
                  try simp only [decide_eq_true_eq, decide_eq_false_iff_not, Bool.not_eq_true', Bool.not_eq_false', beq_iff_eq, bne_iff_ne, beq_eq_false_iff_ne, Bool.and_eq_true, Bool.or_eq_true, Bool.and_eq_false_iff, Bool.or_eq_false_iff, ge_iff_le, gt_iff_lt, Int.not_lt, Int.not_le, ne_eq, Decidable.not_not, bne_eq_false_iff_eq] at hg6_79
                  refine g1 24 true 79 80 26 rfl rfl rfl rfl rfl ?_
                  refine s1 80 424 26 rfl rfl rfl rfl rfl rfl trivial ?_
                  refine g1 24 true 79 81 27 rfl rfl rfl rfl rfl ?_
                  refine c1 (plain_any (fin (B_Leave threads)) (Nat.le_trans (ok_Leave hr).2.2.1 (by decide)) (ok_Leave hr).2.1 (ok_Leave hr).1 (ok_Leave hr).2.2.2) [] [] 81 432 27 rfl rfl rfl rfl rfl rfl rfl rfl Tryd.func13 rfl rfl rfl rfl trivial rfl rfl ?_
                  refine s1 82 440 28 rfl rfl rfl rfl rfl rfl trivial ?_
                  refine s1 2 448 29 rfl rfl rfl rfl rfl rfl trivial ?_
                  refine e1 456 rfl ?_
                  refine keep [2] rfl ?_
                  refine W_ret ?_
                  exact out1 2 (SV.b true) (π := []) (hout := []) Tryd.results4 rfl (by first | rfl | (simp; done) | (simp [*]; done)) rfl rfl trivial rfl
                · skip
                  try simp only [decide_eq_true_eq, decide_eq_false_iff_not, Bool.not_eq_true', Bool.not_eq_false', beq_iff_eq, bne_iff_ne, beq_eq_false_iff_ne, Bool.and_eq_true, Bool.or_eq_true, Bool.and_eq_false_iff, Bool.or_eq_false_iff, ge_iff_le, gt_iff_lt, Int.not_lt, Int.not_le, ne_eq, Decidable.not_not, bne_eq_false_iff_eq] at hg6_79
                  all_goals (exfalso; first | (simp at hg6_79; done) | (simp at hg6_79; omega) | (simp_all; omega) | omega)
              · skip
                try simp only [decide_eq_true_eq, decide_eq_false_iff_not, Bool.not_eq_true', Bool.not_eq_false', beq_iff_eq, bne_iff_ne, beq_eq_false_iff_ne, Bool.and_eq_true, Bool.or_eq_true, Bool.and_eq_false_iff, Bool.or_eq_false_iff, ge_iff_le, gt_iff_lt, Int.not_lt, Int.not_le, ne_eq, Decidable.not_not, bne_eq_false_iff_eq] at hg6_75
                all_goals (exfalso; first | (simp at hg6_75; done) | (simp at hg6_75; omega) | (simp_all; omega) | omega)
            · skip
              try simp only [decide_eq_true_eq, decide_eq_false_iff_not, Bool.not_eq_true', Bool.not_eq_false', beq_iff_eq, bne_iff_ne, beq_eq_false_iff_ne, Bool.and_eq_true, Bool.or_eq_true, Bool.and_eq_false_iff, Bool.or_eq_false_iff, ge_iff_le, gt_iff_lt, Int.not_lt, Int.not_le, ne_eq, Decidable.not_not, bne_eq_false_iff_eq] at hg6_70
              all_goals (exfalso; first | (simp at hg6_70; done) | (simp at hg6_70; omega) | (simp_all; omega) | omega)
          · skip
            try simp only [decide_eq_true_eq, decide_eq_false_iff_not, Bool.not_eq_true', Bool.not_eq_false', beq_iff_eq, bne_iff_ne, beq_eq_false_iff_ne, Bool.and_eq_true, Bool.or_eq_true, Bool.and_eq_false_iff, Bool.or_eq_false_iff, ge_iff_le, gt_iff_lt, Int.not_lt, Int.not_le, ne_eq, Decidable.not_not, bne_eq_false_iff_eq] at hg6_65
            all_goals (exfalso; first | (simp at hg6_65; done) | (simp at hg6_65; omega) | (simp_all; omega) | omega)
        · skip
          try simp only [decide_eq_true_eq, decide_eq_false_iff_not, Bool.not_eq_true', Bool.not_eq_false', beq_iff_eq, bne_iff_ne, beq_eq_false_iff_ne, Bool.and_eq_true, Bool.or_eq_true, Bool.and_eq_false_iff, Bool.or_eq_false_iff, ge_iff_le, gt_iff_lt, Int.not_lt, Int.not_le, ne_eq, Decidable.not_not, bne_eq_false_iff_eq] at hg6_61
          all_goals (exfalso; first | (simp at hg6_61; done) | (simp at hg6_61; omega) | (simp_all; omega) | omega)
      · skip
        try simp only [decide_eq_true_eq, decide_eq_false_iff_not, Bool.not_eq_true', Bool.not_eq_false', beq_iff_eq, bne_iff_ne, beq_eq_false_iff_ne, Bool.and_eq_true, Bool.or_eq_true, Bool.and_eq_false_iff, Bool.or_eq_false_iff, ge_iff_le, gt_iff_lt, Int.not_lt, Int.not_le, ne_eq, Decidable.not_not, bne_eq_false_iff_eq] at hg6_57
        all_goals (exfalso; first | (simp at hg6_57; done) | (simp at hg6_57; omega) | (simp_all; omega) | omega)

theorem law_no (threads : Int) (hr : ¬ (1 ≤ threads ∧ threads ≤ 4)) : Spec Tryd.prog GV 4 [SV.i threads] [] (fun r _ => r = SV.b true) := by
  refine start 83 0 Tryd.func4 rfl rfl rfl rfl ?_
  refine r1 ?_
  refine s1 2 0 1 rfl rfl rfl rfl rfl rfl trivial ?_
  refine e1 8 rfl ?_
  refine keep [0] rfl ?_
  refine r1 ?_
  refine s1 10 8 1 rfl rfl rfl rfl rfl rfl trivial ?_
  refine c1 (no_Words threads hr) [] [] 11 16 2 rfl rfl rfl rfl rfl rfl rfl rfl Tryd.func10 rfl rfl rfl rfl trivial rfl rfl ?_
  refine s1 9 24 3 rfl rfl rfl rfl rfl rfl trivial ?_
  refine s1 12 32 4 rfl rfl rfl rfl rfl rfl trivial ?_
  refine s1 13 40 5 rfl rfl rfl rfl rfl rfl trivial ?_
  refine s1 3 48 6 rfl rfl rfl rfl rfl rfl trivial ?_
  refine s1 4 56 7 rfl rfl rfl rfl rfl rfl trivial ?_
  refine e1 64 rfl ?_
  refine keep [0, 3, 4] rfl ?_
  refine r1 ?_
  refine s1 15 64 1 rfl rfl rfl rfl rfl rfl trivial ?_
  refine c1 (no_Enter threads hr) [] [] 16 72 2 rfl rfl rfl rfl rfl rfl rfl rfl Tryd.func11 rfl rfl rfl rfl trivial rfl rfl ?_
  refine s1 14 80 3 rfl rfl rfl rfl rfl rfl trivial ?_
  refine s1 17 88 4 rfl rfl rfl rfl rfl rfl trivial ?_
  refine s1 18 96 5 rfl rfl rfl rfl rfl rfl trivial ?_
  refine s1 5 104 6 rfl rfl rfl rfl rfl rfl trivial ?_
  refine s1 6 112 7 rfl rfl rfl rfl rfl rfl trivial ?_
  refine e1 120 rfl ?_
  refine keep [0, 3, 4, 5, 6] rfl ?_
  refine r1 ?_
  refine s1 20 120 1 rfl rfl rfl rfl rfl rfl trivial ?_
  refine c1 (no_Leave threads hr) [] [] 21 128 2 rfl rfl rfl rfl rfl rfl rfl rfl Tryd.func12 rfl rfl rfl rfl trivial rfl rfl ?_
  refine s1 19 136 3 rfl rfl rfl rfl rfl rfl trivial ?_
  refine s1 22 144 4 rfl rfl rfl rfl rfl rfl trivial ?_
  refine s1 23 152 5 rfl rfl rfl rfl rfl rfl trivial ?_
  refine s1 7 160 6 rfl rfl rfl rfl rfl rfl trivial ?_
  refine s1 8 168 7 rfl rfl rfl rfl rfl rfl trivial ?_
  refine e1 176 rfl ?_
  refine keep [0, 3, 4, 5, 6, 7, 8] rfl ?_
  refine W_seq ?_
  refine r1 ?_
  refine s1 24 176 1 rfl rfl rfl rfl rfl rfl trivial ?_
  refine s1 25 184 2 rfl rfl rfl rfl rfl rfl (by first | trivial | omega | (simp only [List.length_map, List.length_append, List.length_cons, List.length_nil] at *; omega)) ?_
  refine s1 26 192 3 rfl rfl rfl rfl rfl rfl trivial ?_
  refine ask 26 rfl (fun hg4_26 => ?_) (fun hg4_26 => ?_)
  · skip
    try simp only [decide_eq_true_eq, decide_eq_false_iff_not, Bool.not_eq_true', Bool.not_eq_false', beq_iff_eq, bne_iff_ne, beq_eq_false_iff_ne, Bool.and_eq_true, Bool.or_eq_true, Bool.and_eq_false_iff, Bool.or_eq_false_iff, ge_iff_le, gt_iff_lt, Int.not_lt, Int.not_le, ne_eq, Decidable.not_not, bne_eq_false_iff_eq] at hg4_26
    refine g0 2 false 26 27 4 rfl rfl rfl rfl rfl rfl ?_
    refine g0 2 false 26 28 5 rfl rfl rfl rfl rfl rfl ?_
    refine s1 29 216 6 rfl rfl rfl rfl rfl rfl trivial ?_
    refine e1 224 rfl ?_
    refine keep [3, 4, 5, 6, 7, 8, 29] rfl ?_
    refine q1 rfl (fun hc4 => ?_) (fun hc4 => ?_)
    · skip
      try simp only [decide_eq_true_eq, decide_eq_false_iff_not, Bool.not_eq_true', Bool.not_eq_false', beq_iff_eq, bne_iff_ne, beq_eq_false_iff_ne, Bool.and_eq_true, Bool.or_eq_true, Bool.and_eq_false_iff, Bool.or_eq_false_iff, ge_iff_le, gt_iff_lt, Int.not_lt, Int.not_le, ne_eq, Decidable.not_not, bne_eq_false_iff_eq] at hc4
      refine r1 ?_
      refine s1 30 224 1 rfl rfl rfl rfl rfl rfl trivial ?_
      refine s1 31 232 2 rfl rfl rfl rfl rfl rfl (by first | trivial | omega | (simp only [List.length_map, List.length_append, List.length_cons, List.length_nil] at *; omega)) ?_
      refine s1 32 240 3 rfl rfl rfl rfl rfl rfl (by first | trivial | omega | (simp only [List.length_map, List.length_append, List.length_cons, List.length_nil] at *; omega)) ?_
      refine s1 33 248 4 rfl rfl rfl rfl rfl rfl trivial ?_
      refine ask 33 rfl (fun hg5_33 => ?_) (fun hg5_33 => ?_)
      · skip
        try simp only [decide_eq_true_eq, decide_eq_false_iff_not, Bool.not_eq_true', Bool.not_eq_false', beq_iff_eq, bne_iff_ne, beq_eq_false_iff_ne, Bool.and_eq_true, Bool.or_eq_true, Bool.and_eq_false_iff, Bool.or_eq_false_iff, ge_iff_le, gt_iff_lt, Int.not_lt, Int.not_le, ne_eq, Decidable.not_not, bne_eq_false_iff_eq] at hg5_33
        refine g1 3 true 33 34 5 rfl rfl rfl rfl rfl ?_
        refine s1 34 256 5 rfl rfl rfl rfl rfl rfl trivial ?_
        refine g1 3 true 33 35 6 rfl rfl rfl rfl rfl ?_
        refine s1 35 264 6 rfl rfl rfl rfl rfl rfl (by first | trivial | omega | (simp only [List.length_map, List.length_append, List.length_cons, List.length_nil] at *; omega)) ?_
        refine g1 3 true 33 36 7 rfl rfl rfl rfl rfl ?_
        refine s1 36 272 7 rfl rfl rfl rfl rfl rfl (by first | trivial | omega | (simp only [List.length_map, List.length_append, List.length_cons, List.length_nil] at *; omega)) ?_
        refine s1 37 280 8 rfl rfl rfl rfl rfl rfl trivial ?_
        refine s1 38 288 9 rfl rfl rfl rfl rfl rfl trivial ?_
        refine ask 38 rfl (fun hg5_38 => ?_) (fun hg5_38 => ?_)
        · skip
          try simp only [decide_eq_true_eq, decide_eq_false_iff_not, Bool.not_eq_true', Bool.not_eq_false', beq_iff_eq, bne_iff_ne, beq_eq_false_iff_ne, Bool.and_eq_true, Bool.or_eq_true, Bool.and_eq_false_iff, Bool.or_eq_false_iff, ge_iff_le, gt_iff_lt, Int.not_lt, Int.not_le, ne_eq, Decidable.not_not, bne_eq_false_iff_eq] at hg5_38
          refine g1 8 true 38 39 10 rfl rfl rfl rfl rfl ?_
          refine s1 39 296 10 rfl rfl rfl rfl rfl rfl trivial ?_
          refine g1 8 true 38 40 11 rfl rfl rfl rfl rfl ?_
          refine s1 40 304 11 rfl rfl rfl rfl rfl rfl (by first | trivial | omega | (simp only [List.length_map, List.length_append, List.length_cons, List.length_nil] at *; omega)) ?_
          refine g1 8 true 38 41 12 rfl rfl rfl rfl rfl ?_
          refine s1 41 312 12 rfl rfl rfl rfl rfl rfl (by first | trivial | omega | (simp only [List.length_map, List.length_append, List.length_cons, List.length_nil] at *; omega)) ?_
          refine s1 42 320 13 rfl rfl rfl rfl rfl rfl trivial ?_
          refine s1 43 328 14 rfl rfl rfl rfl rfl rfl trivial ?_
          refine ask 43 rfl (fun hg5_43 => ?_) (fun hg5_43 => ?_)
          · skip
            try simp only [decide_eq_true_eq, decide_eq_false_iff_not, Bool.not_eq_true', Bool.not_eq_false', beq_iff_eq, bne_iff_ne, beq_eq_false_iff_ne, Bool.and_eq_true, Bool.or_eq_true, Bool.and_eq_false_iff, Bool.or_eq_false_iff, ge_iff_le, gt_iff_lt, Int.not_lt, Int.not_le, ne_eq, Decidable.not_not, bne_eq_false_iff_eq] at hg5_43
            refine g1 13 true 43 44 15 rfl rfl rfl rfl rfl ?_
            refine s1 44 336 15 rfl rfl rfl rfl rfl rfl trivial ?_
            refine g1 13 true 43 45 16 rfl rfl rfl rfl rfl ?_
            refine s1 45 344 16 rfl rfl rfl rfl rfl rfl (by first | trivial | omega | (simp only [List.length_map, List.length_append, List.length_cons, List.length_nil] at *; omega)) ?_
            refine s1 46 352 17 rfl rfl rfl rfl rfl rfl trivial ?_
            refine s1 47 360 18 rfl rfl rfl rfl rfl rfl trivial ?_
            refine ask 47 rfl (fun hg5_47 => ?_) (fun hg5_47 => ?_)
            · skip
              try simp only [decide_eq_true_eq, decide_eq_false_iff_not, Bool.not_eq_true', Bool.not_eq_false', beq_iff_eq, bne_iff_ne, beq_eq_false_iff_ne, Bool.and_eq_true, Bool.or_eq_true, Bool.and_eq_false_iff, Bool.or_eq_false_iff, ge_iff_le, gt_iff_lt, Int.not_lt, Int.not_le, ne_eq, Decidable.not_not, bne_eq_false_iff_eq] at hg5_47
              refine g1 17 true 47 48 19 rfl rfl rfl rfl rfl ?_
              refine s1 48 368 19 rfl rfl rfl rfl rfl rfl trivial ?_
              refine g1 17 true 47 49 20 rfl rfl rfl rfl rfl ?_
              refine s1 49 376 20 rfl rfl rfl rfl rfl rfl (by first | trivial | omega | (simp only [List.length_map, List.length_append, List.length_cons, List.length_nil] at *; omega)) ?_
              refine s1 50 384 21 rfl rfl rfl rfl rfl rfl trivial ?_
              refine s1 51 392 22 rfl rfl rfl rfl rfl rfl trivial ?_
              refine ask 51 rfl (fun hg5_51 => ?_) (fun hg5_51 => ?_)
              · skip
                try simp only [decide_eq_true_eq, decide_eq_false_iff_not, Bool.not_eq_true', Bool.not_eq_false', beq_iff_eq, bne_iff_ne, beq_eq_false_iff_ne, Bool.and_eq_true, Bool.or_eq_true, Bool.and_eq_false_iff, Bool.or_eq_false_iff, ge_iff_le, gt_iff_lt, Int.not_lt, Int.not_le, ne_eq, Decidable.not_not, bne_eq_false_iff_eq] at hg5_51
                refine g1 21 true 51 52 23 rfl rfl rfl rfl rfl ?_
                refine s1 52 400 23 rfl rfl rfl rfl rfl rfl trivial ?_
                refine g1 21 true 51 53 24 rfl rfl rfl rfl rfl ?_
                refine s1 53 408 24 rfl rfl rfl rfl rfl rfl (by first | trivial | omega | (simp only [List.length_map, List.length_append, List.length_cons, List.length_nil] at *; omega)) ?_
                refine s1 54 416 25 rfl rfl rfl rfl rfl rfl trivial ?_
                refine s1 2 424 26 rfl rfl rfl rfl rfl rfl trivial ?_
                refine e1 432 rfl ?_
                refine keep [2] rfl ?_
                refine W_ret ?_
                refine tr ?_
                exact out1 2 (SV.b true) (π := []) (hout := []) Tryd.results4 rfl (by first | rfl | (simp; done) | (simp [*]; done)) rfl rfl trivial rfl
              · skip
                try simp only [decide_eq_true_eq, decide_eq_false_iff_not, Bool.not_eq_true', Bool.not_eq_false', beq_iff_eq, bne_iff_ne, beq_eq_false_iff_ne, Bool.and_eq_true, Bool.or_eq_true, Bool.and_eq_false_iff, Bool.or_eq_false_iff, ge_iff_le, gt_iff_lt, Int.not_lt, Int.not_le, ne_eq, Decidable.not_not, bne_eq_false_iff_eq] at hg5_51
                all_goals (exfalso; first | (simp at hg5_51; done) | (simp at hg5_51; omega) | (simp_all; omega) | omega)
            · skip
              try simp only [decide_eq_true_eq, decide_eq_false_iff_not, Bool.not_eq_true', Bool.not_eq_false', beq_iff_eq, bne_iff_ne, beq_eq_false_iff_ne, Bool.and_eq_true, Bool.or_eq_true, Bool.and_eq_false_iff, Bool.or_eq_false_iff, ge_iff_le, gt_iff_lt, Int.not_lt, Int.not_le, ne_eq, Decidable.not_not, bne_eq_false_iff_eq] at hg5_47
              all_goals (exfalso; first | (simp at hg5_47; done) | (simp at hg5_47; omega) | (simp_all; omega) | omega)
          · skip
            try simp only [decide_eq_true_eq, decide_eq_false_iff_not, Bool.not_eq_true', Bool.not_eq_false', beq_iff_eq, bne_iff_ne, beq_eq_false_iff_ne, Bool.and_eq_true, Bool.or_eq_true, Bool.and_eq_false_iff, Bool.or_eq_false_iff, ge_iff_le, gt_iff_lt, Int.not_lt, Int.not_le, ne_eq, Decidable.not_not, bne_eq_false_iff_eq] at hg5_43
            all_goals (exfalso; first | (simp at hg5_43; done) | (simp at hg5_43; omega) | (simp_all; omega) | omega)
        · skip
          try simp only [decide_eq_true_eq, decide_eq_false_iff_not, Bool.not_eq_true', Bool.not_eq_false', beq_iff_eq, bne_iff_ne, beq_eq_false_iff_ne, Bool.and_eq_true, Bool.or_eq_true, Bool.and_eq_false_iff, Bool.or_eq_false_iff, ge_iff_le, gt_iff_lt, Int.not_lt, Int.not_le, ne_eq, Decidable.not_not, bne_eq_false_iff_eq] at hg5_38
          all_goals (exfalso; first | (simp at hg5_38; done) | (simp at hg5_38; omega) | (simp_all; omega) | omega)
      · skip
        try simp only [decide_eq_true_eq, decide_eq_false_iff_not, Bool.not_eq_true', Bool.not_eq_false', beq_iff_eq, bne_iff_ne, beq_eq_false_iff_ne, Bool.and_eq_true, Bool.or_eq_true, Bool.and_eq_false_iff, Bool.or_eq_false_iff, ge_iff_le, gt_iff_lt, Int.not_lt, Int.not_le, ne_eq, Decidable.not_not, bne_eq_false_iff_eq] at hg5_33
        all_goals (exfalso; first | (simp at hg5_33; done) | (simp at hg5_33; omega) | (simp_all; omega) | omega)
    · skip
      exact absurd hc4 (by decide)
  · skip
    try simp only [decide_eq_true_eq, decide_eq_false_iff_not, Bool.not_eq_true', Bool.not_eq_false', beq_iff_eq, bne_iff_ne, beq_eq_false_iff_ne, Bool.and_eq_true, Bool.or_eq_true, Bool.and_eq_false_iff, Bool.or_eq_false_iff, ge_iff_le, gt_iff_lt, Int.not_lt, Int.not_le, ne_eq, Decidable.not_not, bne_eq_false_iff_eq] at hg4_26
    refine g1 2 false 26 27 4 rfl rfl rfl rfl rfl ?_
    refine s1 27 200 4 rfl rfl rfl rfl rfl rfl trivial ?_
    refine g1 2 false 26 28 5 rfl rfl rfl rfl rfl ?_
    refine s1 28 208 5 rfl rfl rfl rfl rfl rfl (by first | trivial | omega | (simp only [List.length_map, List.length_append, List.length_cons, List.length_nil] at *; omega)) ?_
    refine s1 29 216 6 rfl rfl rfl rfl rfl rfl trivial ?_
    refine e1 224 rfl ?_
    refine keep [3, 4, 5, 6, 7, 8, 29] rfl ?_
    refine q1 rfl (fun hc4 => ?_) (fun hc4 => ?_)
    · skip
      try simp only [decide_eq_true_eq, decide_eq_false_iff_not, Bool.not_eq_true', Bool.not_eq_false', beq_iff_eq, bne_iff_ne, beq_eq_false_iff_ne, Bool.and_eq_true, Bool.or_eq_true, Bool.and_eq_false_iff, Bool.or_eq_false_iff, ge_iff_le, gt_iff_lt, Int.not_lt, Int.not_le, ne_eq, Decidable.not_not, bne_eq_false_iff_eq] at hc4
      refine r1 ?_
      refine s1 30 224 1 rfl rfl rfl rfl rfl rfl trivial ?_
      refine s1 31 232 2 rfl rfl rfl rfl rfl rfl (by first | trivial | omega | (simp only [List.length_map, List.length_append, List.length_cons, List.length_nil] at *; omega)) ?_
      refine s1 32 240 3 rfl rfl rfl rfl rfl rfl (by first | trivial | omega | (simp only [List.length_map, List.length_append, List.length_cons, List.length_nil] at *; omega)) ?_
      refine s1 33 248 4 rfl rfl rfl rfl rfl rfl trivial ?_
      refine ask 33 rfl (fun hg5_33 => ?_) (fun hg5_33 => ?_)
      · skip
        try simp only [decide_eq_true_eq, decide_eq_false_iff_not, Bool.not_eq_true', Bool.not_eq_false', beq_iff_eq, bne_iff_ne, beq_eq_false_iff_ne, Bool.and_eq_true, Bool.or_eq_true, Bool.and_eq_false_iff, Bool.or_eq_false_iff, ge_iff_le, gt_iff_lt, Int.not_lt, Int.not_le, ne_eq, Decidable.not_not, bne_eq_false_iff_eq] at hg5_33
        refine g1 3 true 33 34 5 rfl rfl rfl rfl rfl ?_
        refine s1 34 256 5 rfl rfl rfl rfl rfl rfl trivial ?_
        refine g1 3 true 33 35 6 rfl rfl rfl rfl rfl ?_
        refine s1 35 264 6 rfl rfl rfl rfl rfl rfl (by first | trivial | omega | (simp only [List.length_map, List.length_append, List.length_cons, List.length_nil] at *; omega)) ?_
        refine g1 3 true 33 36 7 rfl rfl rfl rfl rfl ?_
        refine s1 36 272 7 rfl rfl rfl rfl rfl rfl (by first | trivial | omega | (simp only [List.length_map, List.length_append, List.length_cons, List.length_nil] at *; omega)) ?_
        refine s1 37 280 8 rfl rfl rfl rfl rfl rfl trivial ?_
        refine s1 38 288 9 rfl rfl rfl rfl rfl rfl trivial ?_
        refine ask 38 rfl (fun hg5_38 => ?_) (fun hg5_38 => ?_)
        · skip
          try simp only [decide_eq_true_eq, decide_eq_false_iff_not, Bool.not_eq_true', Bool.not_eq_false', beq_iff_eq, bne_iff_ne, beq_eq_false_iff_ne, Bool.and_eq_true, Bool.or_eq_true, Bool.and_eq_false_iff, Bool.or_eq_false_iff, ge_iff_le, gt_iff_lt, Int.not_lt, Int.not_le, ne_eq, Decidable.not_not, bne_eq_false_iff_eq] at hg5_38
          refine g1 8 true 38 39 10 rfl rfl rfl rfl rfl ?_
          refine s1 39 296 10 rfl rfl rfl rfl rfl rfl trivial ?_
          refine g1 8 true 38 40 11 rfl rfl rfl rfl rfl ?_
          refine s1 40 304 11 rfl rfl rfl rfl rfl rfl (by first | trivial | omega | (simp only [List.length_map, List.length_append, List.length_cons, List.length_nil] at *; omega)) ?_
          refine g1 8 true 38 41 12 rfl rfl rfl rfl rfl ?_
          refine s1 41 312 12 rfl rfl rfl rfl rfl rfl (by first | trivial | omega | (simp only [List.length_map, List.length_append, List.length_cons, List.length_nil] at *; omega)) ?_
          refine s1 42 320 13 rfl rfl rfl rfl rfl rfl trivial ?_
          refine s1 43 328 14 rfl rfl rfl rfl rfl rfl trivial ?_
          refine ask 43 rfl (fun hg5_43 => ?_) (fun hg5_43 => ?_)
          · skip
            try simp only [decide_eq_true_eq, decide_eq_false_iff_not, Bool.not_eq_true', Bool.not_eq_false', beq_iff_eq, bne_iff_ne, beq_eq_false_iff_ne, Bool.and_eq_true, Bool.or_eq_true, Bool.and_eq_false_iff, Bool.or_eq_false_iff, ge_iff_le, gt_iff_lt, Int.not_lt, Int.not_le, ne_eq, Decidable.not_not, bne_eq_false_iff_eq] at hg5_43
            refine g1 13 true 43 44 15 rfl rfl rfl rfl rfl ?_
            refine s1 44 336 15 rfl rfl rfl rfl rfl rfl trivial ?_
            refine g1 13 true 43 45 16 rfl rfl rfl rfl rfl ?_
            refine s1 45 344 16 rfl rfl rfl rfl rfl rfl (by first | trivial | omega | (simp only [List.length_map, List.length_append, List.length_cons, List.length_nil] at *; omega)) ?_
            refine s1 46 352 17 rfl rfl rfl rfl rfl rfl trivial ?_
            refine s1 47 360 18 rfl rfl rfl rfl rfl rfl trivial ?_
            refine ask 47 rfl (fun hg5_47 => ?_) (fun hg5_47 => ?_)
            · skip
              try simp only [decide_eq_true_eq, decide_eq_false_iff_not, Bool.not_eq_true', Bool.not_eq_false', beq_iff_eq, bne_iff_ne, beq_eq_false_iff_ne, Bool.and_eq_true, Bool.or_eq_true, Bool.and_eq_false_iff, Bool.or_eq_false_iff, ge_iff_le, gt_iff_lt, Int.not_lt, Int.not_le, ne_eq, Decidable.not_not, bne_eq_false_iff_eq] at hg5_47
              refine g1 17 true 47 48 19 rfl rfl rfl rfl rfl ?_
              refine s1 48 368 19 rfl rfl rfl rfl rfl rfl trivial ?_
              refine g1 17 true 47 49 20 rfl rfl rfl rfl rfl ?_
              refine s1 49 376 20 rfl rfl rfl rfl rfl rfl (by first | trivial | omega | (simp only [List.length_map, List.length_append, List.length_cons, List.length_nil] at *; omega)) ?_
              refine s1 50 384 21 rfl rfl rfl rfl rfl rfl trivial ?_
              refine s1 51 392 22 rfl rfl rfl rfl rfl rfl trivial ?_
              refine ask 51 rfl (fun hg5_51 => ?_) (fun hg5_51 => ?_)
              · skip
                try simp only [decide_eq_true_eq, decide_eq_false_iff_not, Bool.not_eq_true', Bool.not_eq_false', beq_iff_eq, bne_iff_ne, beq_eq_false_iff_ne, Bool.and_eq_true, Bool.or_eq_true, Bool.and_eq_false_iff, Bool.or_eq_false_iff, ge_iff_le, gt_iff_lt, Int.not_lt, Int.not_le, ne_eq, Decidable.not_not, bne_eq_false_iff_eq] at hg5_51
                refine g1 21 true 51 52 23 rfl rfl rfl rfl rfl ?_
                refine s1 52 400 23 rfl rfl rfl rfl rfl rfl trivial ?_
                refine g1 21 true 51 53 24 rfl rfl rfl rfl rfl ?_
                refine s1 53 408 24 rfl rfl rfl rfl rfl rfl (by first | trivial | omega | (simp only [List.length_map, List.length_append, List.length_cons, List.length_nil] at *; omega)) ?_
                refine s1 54 416 25 rfl rfl rfl rfl rfl rfl trivial ?_
                refine s1 2 424 26 rfl rfl rfl rfl rfl rfl trivial ?_
                refine e1 432 rfl ?_
                refine keep [2] rfl ?_
                refine W_ret ?_
                refine tr ?_
                exact out1 2 (SV.b true) (π := []) (hout := []) Tryd.results4 rfl (by first | rfl | (simp; done) | (simp [*]; done)) rfl rfl trivial rfl
              · skip
                try simp only [decide_eq_true_eq, decide_eq_false_iff_not, Bool.not_eq_true', Bool.not_eq_false', beq_iff_eq, bne_iff_ne, beq_eq_false_iff_ne, Bool.and_eq_true, Bool.or_eq_true, Bool.and_eq_false_iff, Bool.or_eq_false_iff, ge_iff_le, gt_iff_lt, Int.not_lt, Int.not_le, ne_eq, Decidable.not_not, bne_eq_false_iff_eq] at hg5_51
                all_goals (exfalso; first | (simp at hg5_51; done) | (simp at hg5_51; omega) | (simp_all; omega) | omega)
            · skip
              try simp only [decide_eq_true_eq, decide_eq_false_iff_not, Bool.not_eq_true', Bool.not_eq_false', beq_iff_eq, bne_iff_ne, beq_eq_false_iff_ne, Bool.and_eq_true, Bool.or_eq_true, Bool.and_eq_false_iff, Bool.or_eq_false_iff, ge_iff_le, gt_iff_lt, Int.not_lt, Int.not_le, ne_eq, Decidable.not_not, bne_eq_false_iff_eq] at hg5_47
              all_goals (exfalso; first | (simp at hg5_47; done) | (simp at hg5_47; omega) | (simp_all; omega) | omega)
          · skip
            try simp only [decide_eq_true_eq, decide_eq_false_iff_not, Bool.not_eq_true', Bool.not_eq_false', beq_iff_eq, bne_iff_ne, beq_eq_false_iff_ne, Bool.and_eq_true, Bool.or_eq_true, Bool.and_eq_false_iff, Bool.or_eq_false_iff, ge_iff_le, gt_iff_lt, Int.not_lt, Int.not_le, ne_eq, Decidable.not_not, bne_eq_false_iff_eq] at hg5_43
            all_goals (exfalso; first | (simp at hg5_43; done) | (simp at hg5_43; omega) | (simp_all; omega) | omega)
        · skip
          try simp only [decide_eq_true_eq, decide_eq_false_iff_not, Bool.not_eq_true', Bool.not_eq_false', beq_iff_eq, bne_iff_ne, beq_eq_false_iff_ne, Bool.and_eq_true, Bool.or_eq_true, Bool.and_eq_false_iff, Bool.or_eq_false_iff, ge_iff_le, gt_iff_lt, Int.not_lt, Int.not_le, ne_eq, Decidable.not_not, bne_eq_false_iff_eq] at hg5_38
          all_goals (exfalso; first | (simp at hg5_38; done) | (simp at hg5_38; omega) | (simp_all; omega) | omega)
      · skip
        try simp only [decide_eq_true_eq, decide_eq_false_iff_not, Bool.not_eq_true', Bool.not_eq_false', beq_iff_eq, bne_iff_ne, beq_eq_false_iff_ne, Bool.and_eq_true, Bool.or_eq_true, Bool.and_eq_false_iff, Bool.or_eq_false_iff, ge_iff_le, gt_iff_lt, Int.not_lt, Int.not_le, ne_eq, Decidable.not_not, bne_eq_false_iff_eq] at hg5_33
        all_goals (exfalso; first | (simp at hg5_33; done) | (simp at hg5_33; omega) | (simp_all; omega) | omega)
    · skip
      exfalso; simp at hc4; omega

theorem law_all (threads : Int) : Spec Tryd.prog GV 4 [SV.i threads] [] (fun r _ => r = SV.b true) := by
  by_cases hr : 1 ≤ threads ∧ threads ≤ 4
  · exact law_yes threads hr
  · exact law_no threads hr

end Go.Proofs.YtghnikahahbleaaDoor.Nice
