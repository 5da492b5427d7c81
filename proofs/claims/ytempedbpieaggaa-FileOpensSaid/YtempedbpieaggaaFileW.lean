/- Files of the program. -/
import Derived.Test.YtempedbpieaggaaFileP
namespace Go.Proofs.Ytempedbpieaggaa.Nice
open Go
set_option linter.unusedVariables false
set_option linter.unusedSimpArgs false
set_option maxRecDepth 100000
set_option maxHeartbeats 4000000

theorem fget_any (l : List Int) (hl : Bytes l) (h6 : l.length ≤ 6) : Spec Try.prog GF 49 [u8V l] [] (fun r ho => r = SV.i (getB l) ∧ ho = []) := by
  have hl2 := hl.b
  have hln := hl.n
  refine start 19 0 Try.func49 rfl rfl rfl rfl ?_
  refine r1 ?_
  refine s1 2 0 1 rfl rfl rfl rfl rfl rfl trivial ?_
  refine e1 8 rfl ?_
  refine keep [0] rfl ?_
  refine r1 ?_
  refine s1 3 8 1 rfl rfl rfl rfl rfl rfl trivial ?_
  refine e1 16 rfl ?_
  refine keep [0, 3] rfl ?_
  refine W_seq ?_
  refine r1 ?_
  refine s1 6 16 1 rfl rfl rfl rfl rfl rfl trivial ?_
  refine s1 7 24 2 rfl rfl rfl rfl rfl rfl (by first | trivial | omega | (simp only [List.length_map, List.length_append, List.length_cons, List.length_nil] at *; omega)) ?_
  refine s1 8 32 3 rfl rfl rfl rfl rfl rfl trivial ?_
  refine e1 40 rfl ?_
  refine keep [3, 6, 7, 8] rfl ?_
  refine W_block ?_
  refine loop (α := Nat) 0 (fun n => [(3, SV.i (getB (l.take (n)))), (6, u8V l), (7, SV.i l.length), (8, SV.i (n))]) (fun n => []) (fun n => (n) ≤ l.length) (fun n => l.length - (n)) (((0) : Nat)) [] (fun _ => rfl) (show (0) ≤ l.length from (Nat.zero_le _)) rfl ⟨rfl, rfl, rfl, rfl, trivial⟩ trivial (fun n hx => ?_)
  show W _ _ _ ⟨tOf [(3, SV.i (getB (l.take n))), (6, u8V l), (7, SV.i l.length), (8, SV.i n)], hOf [], 0⟩
  have hx : n ≤ l.length := hx
  have hb := getB_bd hl2 n hx
  have hp := pow256 (show n ≤ 6 by omega)
  have hx8 := hl2 n
  refine r1 ?_
  refine s1 9 0 1 rfl rfl rfl rfl rfl rfl (by first | trivial | omega | (simp only [List.length_map, List.length_append, List.length_cons, List.length_nil] at *; omega)) ?_
  refine e1 8 rfl ?_
  refine keep [3, 6, 7, 8, 9] rfl ?_
  refine W_seq ?_
  refine q1 rfl (fun hc3 => ?_) (fun hc3 => ?_)
  · skip
    try simp only [decide_eq_true_eq, decide_eq_false_iff_not, Bool.not_eq_true', Bool.not_eq_false', beq_iff_eq, bne_iff_ne, beq_eq_false_iff_ne, Bool.and_eq_true, Bool.or_eq_true, Bool.and_eq_false_iff, Bool.or_eq_false_iff, ge_iff_le, gt_iff_lt, Int.not_lt, Int.not_le, ne_eq, Decidable.not_not, bne_eq_false_iff_eq] at hc3
    refine W_skip ?_
    refine tn ?_
    refine W_seq ?_
    refine W_block ?_
    refine r1 ?_
    refine s1 10 8 1 rfl rfl rfl rfl rfl rfl (by first | trivial | omega | (simp only [List.length_map, List.length_append, List.length_cons, List.length_nil] at *; omega)) ?_
    refine s1 11 16 2 rfl rfl rfl rfl rfl rfl (by omega) ?_
    refine val 11 (.d (.val (.int .u8 (l.getD n 0)))) rfl (by simp only [Int.toNat_natCast]) ?_
    refine s1 5 24 3 rfl rfl rfl rfl rfl rfl trivial ?_
    refine e1 32 rfl ?_
    refine keep [3, 5, 6, 7, 8] rfl ?_
    refine r0 ?_
    refine s1 12 32 1 rfl rfl rfl rfl rfl rfl trivial ?_
    refine s1 13 40 2 rfl rfl rfl rfl rfl rfl (by decide) ?_
    refine val 13 (SV.i (getB (l.take n) * 256)) rfl (congrArg (fun x => SV.d (D.val (Value.int .i64 x))) (shl8 hb.1 (by omega))) ?_
    refine s1 14 48 3 rfl rfl rfl rfl rfl rfl trivial ?_
    refine s1 15 56 4 rfl rfl rfl rfl rfl rfl trivial ?_
    refine val 15 (SV.i (l.getD n 0)) rfl (congrArg (fun x => SV.d (D.val (Value.int .i64 x))) (wrap_in ⟨by omega, by omega⟩)) ?_
    refine s1 16 64 5 rfl rfl rfl rfl rfl rfl (by first | trivial | omega | (simp only [List.length_map, List.length_append, List.length_cons, List.length_nil] at *; omega)) ?_
    refine val 16 (SV.i (getB (l.take (n + 1)))) rfl (congrArg (fun x => SV.d (D.val (Value.int .i64 x))) ((or8 hb.1 (by omega) hx8.1 hx8.2).trans (getB_take l n (by omega)).symm)) ?_
    refine s1 3 72 6 rfl rfl rfl rfl rfl rfl trivial ?_
    refine e1 80 rfl ?_
    refine bn ?_
    refine tn ?_
    refine r0 ?_
    refine sA 17 80 1 rfl rfl rfl rfl rfl rfl rfl rfl rfl (by unfold inRange; omega) ?_
    refine s1 8 88 2 rfl rfl rfl rfl rfl rfl trivial ?_
    refine e1 96 rfl ?_
    refine tn ?_
    exact again ((n + 1 : Nat)) [] (show (n + 1) ≤ l.length from (by omega)) (show l.length - (n + 1) < l.length - n from (by omega)) rfl ⟨rfl, rfl, rfl, rfl, trivial⟩ trivial
  · skip
    try simp only [decide_eq_true_eq, decide_eq_false_iff_not, Bool.not_eq_true', Bool.not_eq_false', beq_iff_eq, bne_iff_ne, beq_eq_false_iff_ne, Bool.and_eq_true, Bool.or_eq_true, Bool.and_eq_false_iff, Bool.or_eq_false_iff, ge_iff_le, gt_iff_lt, Int.not_lt, Int.not_le, ne_eq, Decidable.not_not, bne_eq_false_iff_eq] at hc3
    refine W_exit ?_
    refine tx ?_
    refine tx ?_
    refine bx ?_
    refine tn ?_
    refine r1 ?_
    refine s1 18 8 1 rfl rfl rfl rfl rfl rfl trivial ?_
    refine s1 2 16 2 rfl rfl rfl rfl rfl rfl trivial ?_
    refine e1 24 rfl ?_
    refine keep [2] rfl ?_
    refine W_ret ?_
    obtain rfl : n = l.length := (by omega)
    exact out1 2 (SV.i (getB l)) (π := []) (hout := []) Try.results49 rfl (by rw [List.take_length]; rfl) rfl rfl trivial ⟨rfl, rfl⟩

theorem with_any (l : List Int) (hl : Bytes l) (p : Int × Int) (h1 : 0 ≤ p.1 ∧ p.1 < 65521) (h2 : 0 ≤ p.2 ∧ p.2 < 65521) : Spec Try.prog GF 41 [adS p, u8V l] [] (fun r ho => r = adS (adl p l) ∧ ho = []) := by
  have hl2 := hl.b
  have hln := hl.n
  refine start 29 0 Try.func41 rfl rfl rfl rfl ?_
  refine r1 ?_
  refine s1 2 0 1 rfl rfl rfl rfl rfl rfl trivial ?_
  refine s1 4 8 2 rfl rfl rfl rfl rfl rfl trivial ?_
  refine e1 16 rfl ?_
  refine keep [1, 2, 4] rfl ?_
  refine W_seq ?_
  refine r1 ?_
  refine s1 7 16 1 rfl rfl rfl rfl rfl rfl trivial ?_
  refine s1 8 24 2 rfl rfl rfl rfl rfl rfl (by first | trivial | omega | (simp only [List.length_map, List.length_append, List.length_cons, List.length_nil] at *; omega)) ?_
  refine s1 9 32 3 rfl rfl rfl rfl rfl rfl trivial ?_
  refine e1 40 rfl ?_
  refine keep [2, 4, 7, 8, 9] rfl ?_
  refine W_block ?_
  refine loop (α := Nat) 2 (fun n => [(2, .ptr 0 0 0), (4, .ptr 1 0 0), (7, u8V l), (8, SV.i l.length), (9, SV.i (n))]) (fun n => [some (.cells 63 2 [SV.i (adl p (l.take (n))).1, SV.i (adl p (l.take (n))).2]), some (.cells 63 2 [SV.i 0, SV.i 0])]) (fun n => (n) ≤ l.length) (fun n => l.length - (n)) (((0) : Nat)) [0, 8] (fun _ => rfl) (show (0) ≤ l.length from (Nat.zero_le _)) rfl ⟨rfl, rfl, rfl, rfl, rfl, trivial⟩ ⟨rfl, rfl, trivial⟩ (fun n hx => ?_)
  show W _ _ _ ⟨tOf [(2, .ptr 0 0 0), (4, .ptr 1 0 0), (7, u8V l), (8, SV.i l.length), (9, SV.i n)], hOf [some (.cells 63 2 [SV.i (adl p (l.take n)).1, SV.i (adl p (l.take n)).2]), some (.cells 63 2 [SV.i 0, SV.i 0])], 2⟩
  have hx : n ≤ l.length := hx
  have hb := adl_take_bd p l n h1 h2
  have hx8 := hl2 n
  have hst := adl_take p l n
  refine r1 ?_
  refine s1 10 2 1 rfl rfl rfl rfl rfl rfl (by first | trivial | omega | (simp only [List.length_map, List.length_append, List.length_cons, List.length_nil] at *; omega)) ?_
  refine e1 10 rfl ?_
  refine keep [2, 4, 7, 8, 9, 10] rfl ?_
  refine W_seq ?_
  refine q1 rfl (fun hc2 => ?_) (fun hc2 => ?_)
  · skip
    try simp only [decide_eq_true_eq, decide_eq_false_iff_not, Bool.not_eq_true', Bool.not_eq_false', beq_iff_eq, bne_iff_ne, beq_eq_false_iff_ne, Bool.and_eq_true, Bool.or_eq_true, Bool.and_eq_false_iff, Bool.or_eq_false_iff, ge_iff_le, gt_iff_lt, Int.not_lt, Int.not_le, ne_eq, Decidable.not_not, bne_eq_false_iff_eq] at hc2
    refine W_skip ?_
    refine tn ?_
    refine W_seq ?_
    refine W_block ?_
    refine r1 ?_
    refine s1 11 10 1 rfl rfl rfl rfl rfl rfl (by first | trivial | omega | (simp only [List.length_map, List.length_append, List.length_cons, List.length_nil] at *; omega)) ?_
    refine s1 12 18 2 rfl rfl rfl rfl rfl rfl (by omega) ?_
    refine val 12 (.d (.val (.int .u8 (l.getD n 0)))) rfl (by simp only [Int.toNat_natCast]) ?_
    refine s1 6 26 3 rfl rfl rfl rfl rfl rfl trivial ?_
    refine e1 34 rfl ?_
    refine keep [2, 4, 6, 7, 8, 9] rfl ?_
    refine r1 ?_
    refine s1 13 34 1 rfl rfl rfl rfl rfl rfl trivial ?_
    refine s1 14 42 2 rfl rfl rfl rfl rfl rfl (by first | trivial | omega | (simp only [List.length_map, List.length_append, List.length_cons, List.length_nil] at *; omega)) ?_
    refine s1 15 50 3 rfl rfl rfl rfl rfl rfl trivial ?_
    refine s1 16 58 4 rfl rfl rfl rfl rfl rfl trivial ?_
    refine val 16 (SV.i (l.getD n 0)) rfl (congrArg (fun x => SV.d (D.val (Value.int .i64 x))) (wrap_in ⟨by omega, by omega⟩)) ?_
    refine sA 17 66 5 rfl rfl rfl rfl rfl rfl rfl rfl rfl (by unfold inRange; omega) ?_
    refine sD 18 74 6 rfl rfl rfl rfl rfl rfl rfl rfl rfl (by omega) ?_
    refine val 18 (SV.i (((adl p (l.take n)).1 + (l.getD n 0)) % 65521)) rfl (congrArg (fun x => SV.d (D.val (Value.int .i64 x))) rfl) ?_
    refine s1 19 82 7 rfl rfl rfl rfl rfl rfl trivial ?_
    refine s0 90 8 rfl rfl rfl rfl rfl (by first | trivial | omega | (simp only [List.length_map, List.length_append, List.length_cons, List.length_nil] at *; omega)) ?_
    refine e1 98 rfl ?_
    refine keep [2, 4, 7, 8, 9] rfl ?_
    refine r0 ?_
    refine s1 20 98 1 rfl rfl rfl rfl rfl rfl trivial ?_
    refine s1 21 106 2 rfl rfl rfl rfl rfl rfl (by first | trivial | omega | (simp only [List.length_map, List.length_append, List.length_cons, List.length_nil] at *; omega)) ?_
    refine s1 22 114 3 rfl rfl rfl rfl rfl rfl trivial ?_
    refine s1 23 122 4 rfl rfl rfl rfl rfl rfl (by first | trivial | omega | (simp only [List.length_map, List.length_append, List.length_cons, List.length_nil] at *; omega)) ?_
    refine sA 24 130 5 rfl rfl rfl rfl rfl rfl rfl rfl rfl (by unfold inRange; omega) ?_
    refine sD 25 138 6 rfl rfl rfl rfl rfl rfl rfl rfl rfl (by omega) ?_
    refine val 25 (SV.i (((adl p (l.take n)).2 + ((adl p (l.take n)).1 + (l.getD n 0))) % 65521)) rfl (congrArg (fun x => SV.d (D.val (Value.int .i64 x))) (by omega)) ?_
    refine s1 26 146 7 rfl rfl rfl rfl rfl rfl trivial ?_
    refine s0 154 8 rfl rfl rfl rfl rfl (by first | trivial | omega | (simp only [List.length_map, List.length_append, List.length_cons, List.length_nil] at *; omega)) ?_
    refine e1 162 rfl ?_
    refine bn ?_
    refine tn ?_
    refine chval 0 (.cells 63 2 [SV.i (adl p (l.take (n + 1))).1, SV.i (adl p (l.take (n + 1))).2]) rfl (by rw [hst (by omega)]; rfl) ?_
    refine r0 ?_
    refine sA 27 162 1 rfl rfl rfl rfl rfl rfl rfl rfl rfl (by unfold inRange; omega) ?_
    refine s1 9 170 2 rfl rfl rfl rfl rfl rfl trivial ?_
    refine e1 178 rfl ?_
    refine tn ?_
    exact again ((n + 1 : Nat)) [0, 1] (show (n + 1) ≤ l.length from (by omega)) (show l.length - (n + 1) < l.length - n from (by omega)) rfl ⟨rfl, rfl, rfl, rfl, rfl, trivial⟩ ⟨rfl, rfl, trivial⟩
  · skip
    try simp only [decide_eq_true_eq, decide_eq_false_iff_not, Bool.not_eq_true', Bool.not_eq_false', beq_iff_eq, bne_iff_ne, beq_eq_false_iff_ne, Bool.and_eq_true, Bool.or_eq_true, Bool.and_eq_false_iff, Bool.or_eq_false_iff, ge_iff_le, gt_iff_lt, Int.not_lt, Int.not_le, ne_eq, Decidable.not_not, bne_eq_false_iff_eq] at hc2
    refine W_exit ?_
    refine tx ?_
    refine tx ?_
    refine bx ?_
    refine tn ?_
    refine r1 ?_
    refine s1 28 10 1 rfl rfl rfl rfl rfl rfl (by first | trivial | omega | (simp only [List.length_map, List.length_append, List.length_cons, List.length_nil] at *; omega)) ?_
    refine s0 18 2 rfl rfl rfl rfl rfl (by first | trivial | omega | (simp only [List.length_map, List.length_append, List.length_cons, List.length_nil] at *; omega)) ?_
    refine e1 26 rfl ?_
    refine keep [4] rfl ?_
    refine W_ret ?_
    obtain rfl : n = l.length := (by omega)
    exact outN (adS (adl p l)) (π := []) (hout := []) Try.results41 rfl (by trivial) (by rw [List.take_length]; rfl) rfl rfl trivial ⟨rfl, rfl⟩

theorem psum_any (p : Int × Int) (h1 : 0 ≤ p.1 ∧ p.1 < 65521) (h2 : 0 ≤ p.2 ∧ p.2 < 65521) : Spec Try.prog GF 42 [adS p] [] (fun r ho => r = SV.i (p.2 * 65536 + p.1) ∧ ho = []) := by
  refine start 9 0 Try.func42 rfl rfl rfl rfl ?_
  refine r1 ?_
  refine s1 1 0 1 rfl rfl rfl rfl rfl rfl trivial ?_
  refine s1 2 8 2 rfl rfl rfl rfl rfl rfl trivial ?_
  refine e1 16 rfl ?_
  refine keep [1] rfl ?_
  refine r1 ?_
  refine s1 3 16 1 rfl rfl rfl rfl rfl rfl trivial ?_
  refine s1 4 24 2 rfl rfl rfl rfl rfl rfl (by first | trivial | omega | (simp only [List.length_map, List.length_append, List.length_cons, List.length_nil] at *; omega)) ?_
  refine s1 5 32 3 rfl rfl rfl rfl rfl rfl (by decide) ?_
  refine val 5 (SV.i (p.2 * 65536)) rfl (congrArg (fun x => SV.d (D.val (Value.int .i64 x))) (shl16 h2.1 h2.2)) ?_
  refine s1 6 40 4 rfl rfl rfl rfl rfl rfl trivial ?_
  refine s1 7 48 5 rfl rfl rfl rfl rfl rfl (by first | trivial | omega | (simp only [List.length_map, List.length_append, List.length_cons, List.length_nil] at *; omega)) ?_
  refine s1 8 56 6 rfl rfl rfl rfl rfl rfl (by first | trivial | omega | (simp only [List.length_map, List.length_append, List.length_cons, List.length_nil] at *; omega)) ?_
  refine val 8 (SV.i (p.2 * 65536 + p.1)) rfl (congrArg (fun x => SV.d (D.val (Value.int .i64 x))) (join16 _ _ (by omega) (by omega) (by omega) (by omega))) ?_
  refine s1 2 64 7 rfl rfl rfl rfl rfl rfl trivial ?_
  refine e1 72 rfl ?_
  refine keep [2] rfl ?_
  refine W_ret ?_
  exact out1 2 (SV.i (p.2 * 65536 + p.1)) (π := []) (hout := []) Try.results42 rfl rfl rfl rfl trivial ⟨rfl, rfl⟩

theorem adof_any (l : List Int) (hl : Bytes l) : Spec Try.prog GF 23 [u8V l] [] (fun r ho => r = SV.i (adO l) ∧ ho = []) := by
  have hb := adP_bd l
  refine start 7 0 Try.func23 rfl rfl rfl rfl ?_
  refine r1 ?_
  refine s1 2 0 1 rfl rfl rfl rfl rfl rfl trivial ?_
  refine e1 8 rfl ?_
  refine keep [0] rfl ?_
  refine r1 ?_
  refine s1 3 8 1 rfl rfl rfl rfl rfl rfl trivial ?_
  refine s1 4 16 2 rfl rfl rfl rfl rfl rfl trivial ?_
  refine c1 (with_any l hl (1, 0) (by decide) (by decide)) [] [] 5 24 3 rfl rfl rfl rfl rfl rfl rfl rfl Try.func41 rfl rfl rfl rfl trivial rfl rfl ?_
  refine c1 (psum_any (adP l) ⟨hb.1, hb.2.1⟩ ⟨hb.2.2.1, hb.2.2.2⟩) [] [] 6 32 4 rfl rfl rfl rfl rfl rfl rfl rfl Try.func42 rfl rfl rfl rfl trivial rfl rfl ?_
  refine s1 2 40 5 rfl rfl rfl rfl rfl rfl trivial ?_
  refine e1 48 rfl ?_
  refine keep [2] rfl ?_
  refine W_ret ?_
  exact out1 2 (SV.i (adO l)) (π := []) (hout := []) Try.results23 rfl rfl rfl rfl trivial ⟨rfl, rfl⟩

theorem cloneB_any (l : List Int) (hl : l.length ≤ 1048576) : Spec Try.prog GF 50 [u8V l] [] (fun r ho => r = .sl 0 0 l.length ∧ ho = [some (u8B l)]) := by
  refine start 8 0 Try.func50 rfl rfl rfl rfl ?_
  refine r1 ?_
  refine s1 2 0 1 rfl rfl rfl rfl rfl rfl trivial ?_
  refine e1 8 rfl ?_
  refine keep [0] rfl ?_
  refine W_seq ?_
  refine r1 ?_
  refine s1 3 8 1 rfl rfl rfl rfl rfl rfl trivial ?_
  refine sNilQ 4 16 2 rfl rfl rfl rfl rfl rfl rfl rfl (fun b hb => ?_)
  refine e1 24 rfl ?_
  refine keep [0, 4] rfl ?_
  refine q1 rfl (fun hc1 => ?_) (fun hc1 => ?_)
  · skip
    try simp only [decide_eq_true_eq, decide_eq_false_iff_not, Bool.not_eq_true', Bool.not_eq_false', beq_iff_eq, bne_iff_ne, beq_eq_false_iff_ne, Bool.and_eq_true, Bool.or_eq_true, Bool.and_eq_false_iff, Bool.or_eq_false_iff, ge_iff_le, gt_iff_lt, Int.not_lt, Int.not_le, ne_eq, Decidable.not_not, bne_eq_false_iff_eq] at hc1
    obtain rfl : l = [] := List.length_eq_zero_iff.1 (hb hc1)
    refine r1 ?_
    refine s1 2 24 1 rfl rfl rfl rfl rfl rfl trivial ?_
    refine e1 32 rfl ?_
    refine keep [2] rfl ?_
    refine ghostly 2 5 1 (u8F []) rfl ?_
    refine W_ret ?_
    refine tr ?_
    exact out1 2 (.sl 0 0 0) (π := [32]) (hout := [some (u8B [])]) Try.results50 rfl rfl rfl rfl ⟨rfl, trivial⟩ ⟨rfl, rfl⟩
  · skip
    try simp only [decide_eq_true_eq, decide_eq_false_iff_not, Bool.not_eq_true', Bool.not_eq_false', beq_iff_eq, bne_iff_ne, beq_eq_false_iff_ne, Bool.and_eq_true, Bool.or_eq_true, Bool.and_eq_false_iff, Bool.or_eq_false_iff, ge_iff_le, gt_iff_lt, Int.not_lt, Int.not_le, ne_eq, Decidable.not_not, bne_eq_false_iff_eq] at hc1
    refine W_skip ?_
    refine tn ?_
    refine r1 ?_
    refine s1 5 24 1 rfl rfl rfl rfl rfl rfl trivial ?_
    refine s1 6 32 2 rfl rfl rfl rfl rfl rfl trivial ?_
    refine s1 7 40 3 rfl rfl rfl rfl rfl rfl ⟨trivial, (by show l.length * 1 ≤ 140737488355328; omega), (by simp only [maxLen]; omega)⟩ ?_
    refine s1 2 48 4 rfl rfl rfl rfl rfl rfl trivial ?_
    refine e1 56 rfl ?_
    refine keep [2] rfl ?_
    refine W_ret ?_
    exact out1 2 (.sl 0 0 l.length) (π := [40]) (hout := [some (u8B l)]) Try.results50 rfl rfl rfl rfl ⟨rfl, trivial⟩ ⟨rfl, rfl⟩

theorem first_any (l : List Int) (hl : Bytes l) (q : FstR) (hp : fstR l = q) : Spec Try.prog GF 46 [u8V l] [] (fun r ho => r = SV.tup [u8V q.body, SV.i q.e] ∧ ho = []) := by
  have hn := hl.n
  refine start 35 0 Try.func46 rfl rfl rfl rfl ?_
  refine r1 ?_
  refine s1 2 0 1 rfl rfl rfl rfl rfl rfl trivial ?_
  refine s1 3 8 2 rfl rfl rfl rfl rfl rfl trivial ?_
  refine e1 16 rfl ?_
  refine keep [0] rfl ?_
  refine W_seq ?_
  refine r1 ?_
  refine s1 5 16 1 rfl rfl rfl rfl rfl rfl trivial ?_
  refine s1 6 24 2 rfl rfl rfl rfl rfl rfl (by first | trivial | omega | (simp only [List.length_map, List.length_append, List.length_cons, List.length_nil] at *; omega)) ?_
  refine s1 7 32 3 rfl rfl rfl rfl rfl rfl (by first | trivial | omega | (simp only [List.length_map, List.length_append, List.length_cons, List.length_nil] at *; omega)) ?_
  refine e1 40 rfl ?_
  refine keep [0, 7] rfl ?_
  refine q1 rfl (fun hc1 => ?_) (fun hc1 => ?_)
  · skip
    try simp only [decide_eq_true_eq, decide_eq_false_iff_not, Bool.not_eq_true', Bool.not_eq_false', beq_iff_eq, bne_iff_ne, beq_eq_false_iff_ne, Bool.and_eq_true, Bool.or_eq_true, Bool.and_eq_false_iff, Bool.or_eq_false_iff, ge_iff_le, gt_iff_lt, Int.not_lt, Int.not_le, ne_eq, Decidable.not_not, bne_eq_false_iff_eq] at hc1
    refine r1 ?_
    refine s1 2 40 1 rfl rfl rfl rfl rfl rfl trivial ?_
    refine s1 3 48 2 rfl rfl rfl rfl rfl rfl trivial ?_
    refine e1 56 rfl ?_
    refine keep [2, 3] rfl ?_
    refine nilv 2 1 (u8F []) rfl ?_
    refine W_ret ?_
    refine tr ?_
    have hq := hp.symm.trans (fst_short (by omega))
    exact out2 2 3 (u8V q.body) (SV.i q.e) (π := []) (hout := []) Try.results46 rfl rfl (by rw [hq]; rfl) (by rw [hq]; rfl) rfl rfl trivial ⟨rfl, rfl⟩
  · skip
    try simp only [decide_eq_true_eq, decide_eq_false_iff_not, Bool.not_eq_true', Bool.not_eq_false', beq_iff_eq, bne_iff_ne, beq_eq_false_iff_ne, Bool.and_eq_true, Bool.or_eq_true, Bool.and_eq_false_iff, Bool.or_eq_false_iff, ge_iff_le, gt_iff_lt, Int.not_lt, Int.not_le, ne_eq, Decidable.not_not, bne_eq_false_iff_eq] at hc1
    have hN := fstN_bd hl (by omega)
    refine W_skip ?_
    refine tn ?_
    refine r1 ?_
    refine s1 8 40 1 rfl rfl rfl rfl rfl rfl trivial ?_
    refine s1w (u8V (l.take 2)) 9 48 2 rfl rfl rfl rfl rfl rfl ⟨by omega, by omega, by omega⟩ (fun M ρ z h => piece0_w (by rfl) (by omega) h) ?_
    refine c1 (fget_any (l.take 2) (bytes_take hl 2) (by rw [List.length_take]; omega)) [] [] 10 56 3 rfl rfl rfl rfl rfl rfl rfl rfl Try.func49 rfl rfl rfl rfl trivial rfl rfl ?_
    refine s1 4 64 4 rfl rfl rfl rfl rfl rfl trivial ?_
    refine e1 72 rfl ?_
    refine keep [0, 4] rfl ?_
    refine W_seq ?_
    refine W_block ?_
    refine cval 4 (SV.i (fstN l : Nat)) rfl (by rw [hN.1]) ?_
    refine r1 ?_
    refine s1 12 72 1 rfl rfl rfl rfl rfl rfl trivial ?_
    refine s1 13 80 2 rfl rfl rfl rfl rfl rfl (by first | trivial | omega | (simp only [List.length_map, List.length_append, List.length_cons, List.length_nil] at *; omega)) ?_
    refine s1 11 88 3 rfl rfl rfl rfl rfl rfl trivial ?_
    refine e1 96 rfl ?_
    refine keep [0, 4, 11] rfl ?_
    refine q1 rfl (fun hc4 => ?_) (fun hc4 => ?_)
    · skip
      try simp only [decide_eq_true_eq, decide_eq_false_iff_not, Bool.not_eq_true', Bool.not_eq_false', beq_iff_eq, bne_iff_ne, beq_eq_false_iff_ne, Bool.and_eq_true, Bool.or_eq_true, Bool.and_eq_false_iff, Bool.or_eq_false_iff, ge_iff_le, gt_iff_lt, Int.not_lt, Int.not_le, ne_eq, Decidable.not_not, bne_eq_false_iff_eq] at hc4
      refine r1 ?_
      refine s1 2 96 1 rfl rfl rfl rfl rfl rfl trivial ?_
      refine s1 3 104 2 rfl rfl rfl rfl rfl rfl trivial ?_
      refine e1 112 rfl ?_
      refine keep [2, 3] rfl ?_
      refine nilv 2 1 (u8F []) rfl ?_
      refine W_ret ?_
      refine br ?_
      refine tr ?_
      have hq := hp.symm.trans (fst_size (by omega) (by omega))
      exact out2 2 3 (u8V q.body) (SV.i q.e) (π := []) (hout := []) Try.results46 rfl rfl (by rw [hq]; rfl) (by rw [hq]; rfl) rfl rfl trivial ⟨rfl, rfl⟩
    · skip
      try simp only [decide_eq_true_eq, decide_eq_false_iff_not, Bool.not_eq_true', Bool.not_eq_false', beq_iff_eq, bne_iff_ne, beq_eq_false_iff_ne, Bool.and_eq_true, Bool.or_eq_true, Bool.and_eq_false_iff, Bool.or_eq_false_iff, ge_iff_le, gt_iff_lt, Int.not_lt, Int.not_le, ne_eq, Decidable.not_not, bne_eq_false_iff_eq] at hc4
      refine r1 ?_
      refine s1 15 96 1 rfl rfl rfl rfl rfl rfl trivial ?_
      refine s1 16 104 2 rfl rfl rfl rfl rfl rfl (by first | trivial | omega | (simp only [List.length_map, List.length_append, List.length_cons, List.length_nil] at *; omega)) ?_
      refine sA 17 112 3 rfl rfl rfl rfl rfl rfl rfl rfl rfl (by unfold inRange; omega) ?_
      refine s1 18 120 4 rfl rfl rfl rfl rfl rfl trivial ?_
      refine s1 19 128 5 rfl rfl rfl rfl rfl rfl (by first | trivial | omega | (simp only [List.length_map, List.length_append, List.length_cons, List.length_nil] at *; omega)) ?_
      refine s1 14 136 6 rfl rfl rfl rfl rfl rfl trivial ?_
      refine e1 144 rfl ?_
      refine keep [0, 4, 14] rfl ?_
      refine q1 rfl (fun hc6 => ?_) (fun hc6 => ?_)
      · skip
        try simp only [decide_eq_true_eq, decide_eq_false_iff_not, Bool.not_eq_true', Bool.not_eq_false', beq_iff_eq, bne_iff_ne, beq_eq_false_iff_ne, Bool.and_eq_true, Bool.or_eq_true, Bool.and_eq_false_iff, Bool.or_eq_false_iff, ge_iff_le, gt_iff_lt, Int.not_lt, Int.not_le, ne_eq, Decidable.not_not, bne_eq_false_iff_eq] at hc6
        refine r1 ?_
        refine s1 2 144 1 rfl rfl rfl rfl rfl rfl trivial ?_
        refine s1 3 152 2 rfl rfl rfl rfl rfl rfl trivial ?_
        refine e1 160 rfl ?_
        refine keep [2, 3] rfl ?_
        refine nilv 2 1 (u8F []) rfl ?_
        refine W_ret ?_
        refine br ?_
        refine tr ?_
        have hq := hp.symm.trans (fst_short2 (by omega) (by omega) (by omega))
        exact out2 2 3 (u8V q.body) (SV.i q.e) (π := []) (hout := []) Try.results46 rfl rfl (by rw [hq]; rfl) (by rw [hq]; rfl) rfl rfl trivial ⟨rfl, rfl⟩
      · skip
        try simp only [decide_eq_true_eq, decide_eq_false_iff_not, Bool.not_eq_true', Bool.not_eq_false', beq_iff_eq, bne_iff_ne, beq_eq_false_iff_ne, Bool.and_eq_true, Bool.or_eq_true, Bool.and_eq_false_iff, Bool.or_eq_false_iff, ge_iff_le, gt_iff_lt, Int.not_lt, Int.not_le, ne_eq, Decidable.not_not, bne_eq_false_iff_eq] at hc6
        refine rd1 rfl ?_
        refine d1 21 144 1 rfl rfl rfl rfl rfl rfl trivial ?_
        refine d1 22 152 2 rfl rfl rfl rfl rfl rfl trivial ?_
        refine dA 23 160 3 rfl rfl rfl rfl rfl rfl rfl rfl rfl (by unfold inRange; omega) ?_
        refine d1w (u8V (fstB l)) 24 168 4 rfl rfl rfl rfl rfl rfl ⟨by omega, by omega, by omega⟩ (fun M ρ z h => piece_w (by omega) (by omega) h) ?_
        refine dc1 (adof_any (fstB l) (bytes_take (bytes_drop hl 6) _)) [] [] 25 176 5 rfl rfl rfl rfl rfl rfl rfl rfl Try.func23 rfl rfl rfl rfl trivial rfl rfl ?_
        refine d1 26 184 6 rfl rfl rfl rfl rfl rfl trivial ?_
        refine d1w (u8V ((l.drop 2).take 4)) 27 192 7 rfl rfl rfl rfl rfl rfl ⟨by omega, by omega, by omega⟩ (fun M ρ z h => piece_w (by omega) (by omega) h) ?_
        refine dc1 (fget_any ((l.drop 2).take 4) (bytes_take (bytes_drop hl 2) _) (by rw [List.length_take]; omega)) [] [] 28 200 8 rfl rfl rfl rfl rfl rfl rfl rfl Try.func49 rfl rfl rfl rfl trivial rfl rfl ?_
        refine d1 29 208 9 rfl rfl rfl rfl rfl rfl (by first | trivial | omega | (simp only [List.length_map, List.length_append, List.length_cons, List.length_nil] at *; omega)) ?_
        refine d1 20 216 10 rfl rfl rfl rfl rfl rfl trivial ?_
        refine de1 224 rfl (by kernel_rfl) ?_
        refine keep [0, 4, 20] rfl ?_
        refine q1 rfl (fun hc8 => ?_) (fun hc8 => ?_)
        · skip
          try simp only [decide_eq_true_eq, decide_eq_false_iff_not, Bool.not_eq_true', Bool.not_eq_false', beq_iff_eq, bne_iff_ne, beq_eq_false_iff_ne, Bool.and_eq_true, Bool.or_eq_true, Bool.and_eq_false_iff, Bool.or_eq_false_iff, ge_iff_le, gt_iff_lt, Int.not_lt, Int.not_le, ne_eq, Decidable.not_not, bne_eq_false_iff_eq] at hc8
          refine r1 ?_
          refine s1 2 224 1 rfl rfl rfl rfl rfl rfl trivial ?_
          refine s1 3 232 2 rfl rfl rfl rfl rfl rfl trivial ?_
          refine e1 240 rfl ?_
          refine keep [2, 3] rfl ?_
          refine nilv 2 1 (u8F []) rfl ?_
          refine W_ret ?_
          refine br ?_
          refine tr ?_
          have hq := hp.symm.trans (fst_sum (by omega) (by omega) (by omega) hc8)
          exact out2 2 3 (u8V q.body) (SV.i q.e) (π := []) (hout := []) Try.results46 rfl rfl (by rw [hq]; rfl) (by rw [hq]; rfl) rfl rfl trivial ⟨rfl, rfl⟩
        · skip
          try simp only [decide_eq_true_eq, decide_eq_false_iff_not, Bool.not_eq_true', Bool.not_eq_false', beq_iff_eq, bne_iff_ne, beq_eq_false_iff_ne, Bool.and_eq_true, Bool.or_eq_true, Bool.and_eq_false_iff, Bool.or_eq_false_iff, ge_iff_le, gt_iff_lt, Int.not_lt, Int.not_le, ne_eq, Decidable.not_not, bne_eq_false_iff_eq] at hc8
          refine W_skip ?_
          refine bn ?_
          refine tn ?_
          refine r1 ?_
          refine s1 30 224 1 rfl rfl rfl rfl rfl rfl trivial ?_
          refine s1 31 232 2 rfl rfl rfl rfl rfl rfl trivial ?_
          refine sA 32 240 3 rfl rfl rfl rfl rfl rfl rfl rfl rfl (by unfold inRange; omega) ?_
          refine s1w (u8V (fstB l)) 33 248 4 rfl rfl rfl rfl rfl rfl ⟨by omega, by omega, by omega⟩ (fun M ρ z h => piece_w (by omega) (by omega) h) ?_
          refine c1 (cloneB_any (fstB l) (by unfold fstB; rw [List.length_take]; omega)) [] [256] 34 256 5 rfl rfl rfl rfl rfl rfl rfl rfl Try.func50 rfl rfl rfl rfl trivial rfl rfl ?_
          refine s1 2 264 6 rfl rfl rfl rfl rfl rfl trivial ?_
          refine s1 3 272 7 rfl rfl rfl rfl rfl rfl trivial ?_
          refine e1 280 rfl ?_
          refine keep [2, 3] rfl ?_
          refine freeze 2 256 (fstB l).length rfl rfl (Nat.le_refl _) ?_
          refine W_ret ?_
          have hq := hp.symm.trans (fst_yes (by omega) (by omega) (by omega) hc8)
          exact out2 2 3 (u8V q.body) (SV.i q.e) (π := []) (hout := []) Try.results46 rfl rfl (by rw [hq]; rfl) (by rw [hq]; rfl) rfl rfl trivial ⟨rfl, rfl⟩

end Go.Proofs.Ytempedbpieaggaa.Nice
